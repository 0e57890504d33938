/- DrrServes -/
import Derived.Test.YthligipgmicgfaaDrrA
import Derived.Test.YthligipgmicgfaaQPlL
namespace Go.Proofs.Ythligipgmicgfaa
open Go.RowKit
attribute [local go_sem] Oper.semAt_some

abbrev actI (x : Bool × Int × (Value × It)) : Value × It := x.2.2
set_option maxRecDepth 100000 in
set_option maxHeartbeats 1000000 in
theorem great21_any {S : Nat → Prop} {v : Value} {xs : List (Bool × Int × (Value × It))} {w : World} (h : Sl S w v 6 encD xs) (hl : ∀ x ∈ xs, ∃ p c, x.2.2.1 = .slice p x.2.2.2.ls.length c) : Calls Try.prog 30 #[v] w (Is (.bool (greatB (xs.map actI))) w) := by
  obtain ⟨p, c, rfl, _, hc⟩ := h.len
  by_cases hbig : 200 < xs.length
  · have hb : (200 : Int) < xs.length := by omega
    have HE : Hid (greatB (xs.map actI) = true) := Lib.hid (decide_eq_true (.inl (by rw [List.length_map]; exact hbig)))
    clear h hl
    go_enter Try.func30, Try.ntmps30
    go_wp2
    go_ret
    exact ⟨by rw [HE.out]; rfl, rfl⟩
  · have HS := Lib.hid h
    have HL := Lib.hid hl
    have hb : (xs.length : Int) ≤ 200 := by omega
    clear h hl hc
    go_enter Try.func30, Try.ntmps30
    go_wp2
    go_loop [3, 4] (fun s i => ∃ k : Nat, s = .int .i64 (labs ((xs.map actI).take k)) ∧ i = .int .i64 k ∧ k ≤ xs.length ∧ labs ((xs.map actI).take k) ≤ 1000 * k) (fun _ i => xs.length - (intOf i).toNat)
    · exact ⟨0, rfl, rfl, by omega, by simp [labs]⟩
    obtain ⟨k, rfl, rfl, hk, hs⟩ := hrel
    by_cases hlt : k < xs.length
    · obtain ⟨x, hx⟩ : ∃ x, xs[k]? = some x := ⟨_, List.getElem?_eq_getElem hlt⟩
      obtain ⟨a, rfl, _, _, hM⟩ := HS.out.at hx
      obtain ⟨p1, c1, he⟩ := HL.out x (List.mem_of_getElem? hx)
      have x1 : w.cell? ⟨(a.add (k * 6)).block, (a.add (k * 6)).off + 2, none⟩ = some x.2.2.1 := hM k x hx 2 _ rfl
      rw [he] at x1
      have hts : labs ((xs.map actI).take (k + 1)) = labs ((xs.map actI).take k) + x.2.2.2.ls.length := by
        rw [take_snoc (x := x.2.2) (by rw [List.getElem?_map, hx]; rfl), labs_snoc]
      obtain ⟨s0, hs0⟩ : ∃ s, labs ((xs.map actI).take k) = s := ⟨_, rfl⟩
      rw [hs0] at hts hs ⊢
      have HTS := Lib.hid hts
      have hkk : (k : Int) < (xs.length : Int) := by omega
      have HXM := Lib.hid (List.mem_map_of_mem (f := actI) (List.mem_of_getElem? hx))
      clear hx hts hs0 hM he
      by_cases hg : 1000 < x.2.2.2.ls.length
      · have hg1 : (1000 : Int) < x.2.2.2.ls.length := by omega
        have HE : Hid (greatB (xs.map actI) = true) := Lib.hid (decide_eq_true (.inr (by have h0 : x.2.2.2.ls.length ≤ labs (xs.map actI) := labs_mem HXM.out; omega)))
        go_wp2
        go_ret
        exact ⟨by rw [HE.out]; rfl, rfl⟩
      · have hg1 : ¬ (1000 : Int) < x.2.2.2.ls.length := by omega
        have hg2 : (x.2.2.2.ls.length : Int) ≤ 1000 := by omega
        have hs1 : (s0 : Int) ≤ 1000 * k := by omega
        go_wp2
        exact ⟨⟨k + 1, by rw [HTS.out]; simp, by simp, by omega, by rw [HTS.out]; omega⟩, by simp [intOf]; omega⟩
    · obtain rfl : k = xs.length := by omega
      rw [show (xs.map actI).take xs.length = xs.map actI from List.take_of_length_le (by simp)] at hs ⊢
      obtain ⟨s0, hs0⟩ : ∃ s, labs (xs.map actI) = s := ⟨_, rfl⟩
      rw [hs0] at hs ⊢
      have HS0 := Lib.hid hs0
      clear hs0
      go_wp2
      go_ret
      refine ⟨?_, rfl⟩
      unfold greatB
      rw [HS0.out, List.length_map]
      have hbn : ¬ 200 < xs.length := by omega
      simp only [hbn, false_or]
      show Ending.returned (.bool (decide (1000 < (s0 : Int)))) = _
      by_cases h1 : 1000 < s0
      · rw [decide_eq_true h1, decide_eq_true (by omega)]
      · rw [decide_eq_false h1, decide_eq_false (by omega)]

/-- what is served by any deficit: the items, those that wait, what is left, the answer -/
def svd (xs : List It) (d : Int) : List It × List It × Int × Int := if 0 ≤ d ∧ d ≤ 256 then ((sv xs (d + 64)).1, (sv xs (d + 64)).2.1, (sv xs (d + 64)).2.2, 0) else ([], xs, 0, 2)
theorem svd_fair {xs : List It} (h : Fair xs) (d : Int) : Fair (svd xs d).1 ∧ Fair (svd xs d).2.1 := by
  unfold svd
  split
  · exact ⟨h.out _, h.rest _⟩
  · exact ⟨fun x hx => (by cases hx), h⟩
theorem svd_len (xs : List It) (d : Int) : (svd xs d).1.length ≤ xs.length ∧ (svd xs d).2.1.length ≤ xs.length := by
  unfold svd
  split
  · have := sv_len xs (d + 64)
    exact ⟨by show (sv xs (d + 64)).1.length ≤ _; omega, by show (sv xs (d + 64)).2.1.length ≤ _; omega⟩
  · exact ⟨by simp, Nat.le_refl _⟩
def SvTo (S : Nat → Prop) (p : Nat) (xs : List It) (d : Int) (w : World) (e : Ending) (w' : World) : Prop := ∃ v, e = .returned (.tuple #[v, .int .i64 (svd xs d).2.2.1, .int .i64 (svd xs d).2.2.2]) ∧ Its (fun k => w.heap.size ≤ k) w' v (svd xs d).1 ∧ QAt S p w' (svd xs d).2.1 ∧ Kept (fun k => k = p) w w'
theorem drrServe_all {S : Nat → Prop} {p : Nat} {w : World} {xs : List It} {d : Int} (h : QAt S p w xs) (hn : xs.length ≤ 100000) (hc : Fair xs) : Calls Try.prog 28 #[qv p, .int .i64 d] w (SvTo S p xs d w) := by
  by_cases hd : 0 ≤ d ∧ d ≤ 256
  · have e0 : svd xs d = ((sv xs (d + 64)).1, (sv xs (d + 64)).2.1, (sv xs (d + 64)).2.2, 0) := by unfold svd; rw [if_pos hd]
    refine (drrServe_any h hd.1 hd.2 hn hc).mono ?_
    rintro e w' ⟨v, rs, rfl, h1, h2, h3⟩
    unfold SvTo
    rw [e0]
    exact ⟨v, rfl, h1.all, h2, h3⟩
  · have e0 : svd xs d = ([], xs, 0, 2) := by unfold svd; rw [if_neg hd]
    refine (drrServe_not h hd).mono ?_
    rintro e w' ⟨rfl, h2, h3⟩
    unfold SvTo
    rw [e0]
    exact ⟨_, rfl, Its.nil _ _, h2, h3⟩
def RvTo (S : Nat → Prop) (xs : List It) (d : Int) (w : World) (e : Ending) (w' : World) : Prop := ∃ v1 v2, e = .returned (.tuple #[v1, v2, .int .i64 (svd xs d).2.2.1, .int .i64 (svd xs d).2.2.2]) ∧ Below w.heap.size w w' ∧ Its S w' v1 (svd xs d).1 ∧ Its S w' v2 (svd xs d).2.1
theorem refServe_all {S : Nat → Prop} {v : Value} {w : World} {xs : List It} {d : Int} (h : Its S w v xs) (hn : xs.length ≤ 100000) (hc : Fair xs) : Calls Try.prog 31 #[v, .int .i64 d] w (RvTo S xs d w) := by
  by_cases hd : 0 ≤ d ∧ d ≤ 256
  · have e0 : svd xs d = ((sv xs (d + 64)).1, (sv xs (d + 64)).2.1, (sv xs (d + 64)).2.2, 0) := by unfold svd; rw [if_pos hd]
    refine (refServe_any h hd.1 hd.2 hn hc).mono ?_
    rintro e w' ⟨v1, v2, rfl, h1, h2, h3⟩
    unfold RvTo
    rw [e0]
    exact ⟨v1, v2, rfl, h1, h2, h3⟩
  · have e0 : svd xs d = ([], xs, 0, 2) := by unfold svd; rw [if_neg hd]
    obtain ⟨p, c, rfl⟩ := h.slice
    refine (refServe_not hd).mono ?_
    rintro e w' ⟨rfl, rfl⟩
    unfold RvTo
    rw [e0]
    exact ⟨_, _, rfl, Below.refl _ _, Its.nil _ _, h⟩
theorem push_ps2 {w W W' : World} {p : Nat} {vm vm' : Value} {q : List It} {it : It} (hq : QAt (fun k => k ≠ p) p W' (pushL q it)) (hm : Its (fun k => k ≠ p) W' vm' (pushL q it)) (hb : Below w.heap.size w W') (h : PS w p vm q W) : PS w p vm' (pushL q it) W' := by
  refine ⟨hq, hm, hb, h.lt, ?_, fun x hx => ?_⟩
  · unfold pushL
    split
    · rename_i h1
      have : q.length < 8 := by simp at h1; exact h1.2
      simp
      omega
    · exact h.n
  · unfold pushL at hx
    split at hx
    · rename_i h1
      rcases List.mem_append.1 hx with hx | hx
      · exact h.c x hx
      · obtain rfl : x = it := by simpa using hx
        unfold mayCost at h1
        simp at h1
        exact h1.1
    · exact h.c x hx
set_option maxRecDepth 100000 in
theorem serves_big {v : Value} {w : World} (hG : Calls Try.prog 30 #[v] w (Is (.bool true) w)) : Calls Try.prog 8 #[v] w (Tells (.bool true) w) := by
  have HG := Lib.hid hG
  clear hG
  go_enter Try.func8, Try.ntmps8
  go_wp2_with fail
  refine HG.out.mono ?_
  rintro e w1 ⟨rfl, rfl⟩
  go_wp2_with fail
  go_ret
  exact ⟨rfl, Below.refl _ _⟩
set_option maxRecDepth 100000 in
set_option maxHeartbeats 16000000 in
theorem serves_walk {v : Value} {xs : List (Bool × Int × (Value × It))} {w : World} (h : Sl (fun _ => True) w v 6 encD xs) (hl : ∀ x ∈ xs, Lb (fun _ => True) w x.2.2.1 x.2.2.2.ls) (hG : Calls Try.prog 30 #[v] w (Is (.bool false) w)) (hn : xs.length ≤ 200) :
    Calls Try.prog 8 #[v] w (Tells (.bool true) w) := by
  obtain ⟨p0, c0, rfl, _, _⟩ := h.len
  have HS := Lib.hid h
  have HL := Lib.hid hl
  have HG := Lib.hid hG
  clear h hl hG
  go_enter Try.func8, Try.ntmps8
  go_wp2_with fail
  refine HG.out.mono ?_
  rintro e w1 ⟨rfl, rfl⟩
  go_wp2_with fail
  refine (new_any w).mono ?_
  rintro e w1 ⟨rfl, hb, hq⟩
  have O1 : Hid (PS w w.heap.size (.slice none 0 0) [] w1) := Lib.hid ⟨hq, Its.nil _ _, hb, Nat.le_refl _, by simp, fun x hx => by cases hx⟩
  clear hb hq
  obtain ⟨p, hp⟩ : ∃ p, p = w.heap.size := ⟨_, rfl⟩
  rw [← hp] at O1 ⊢
  clear hp HG
  go_wp2_with fail
  go_loopw [4, 5, 6] (fun vm dv i wr => ∃ (k : Nat) (q : List It) (d : Int), i = .int .i64 k ∧ dv = .int .i64 d ∧ k ≤ xs.length ∧ PS w p vm q wr) (fun _ _ i _ => xs.length - (intOf i).toNat)
  · exact ⟨0, [], 0, rfl, rfl, by omega, O1.out⟩
  obtain ⟨k, q, d, rfl, rfl, hk, hO⟩ := hrel
  obtain ⟨pm, cm, rfl⟩ := hO.m.slice
  have HO := Lib.hid hO
  clear hO O1
  by_cases hlt : k < xs.length
  · obtain ⟨x, hx⟩ : ∃ x, xs[k]? = some x := ⟨_, List.getElem?_eq_getElem hlt⟩
    have hxm := List.mem_of_getElem? hx
    obtain ⟨a, rfl, _, _, hM⟩ := (HS.out.below HO.out.b).at hx
    have hkk : (k : Int) < (xs.length : Int) := by omega
    have x0 : wr.cell? (a.add (k * 6)) = some (.bool x.1) := hM k x hx 0 _ rfl
    have x1 : wr.cell? ⟨(a.add (k * 6)).block, (a.add (k * 6)).off + 1, none⟩ = some (.int .i64 x.2.1) := hM k x hx 1 _ rfl
    have x2 : wr.cell? ⟨(a.add (k * 6)).block, (a.add (k * 6)).off + 2, none⟩ = some x.2.2.1 := hM k x hx 2 _ rfl
    have x3 : wr.cell? ⟨(a.add (k * 6)).block, (a.add (k * 6)).off + 3, none⟩ = some (.int .i64 x.2.2.2.at_) := hM k x hx 3 _ rfl
    have x4 : wr.cell? ⟨(a.add (k * 6)).block, (a.add (k * 6)).off + 4, none⟩ = some (.int .i64 x.2.2.2.vl) := hM k x hx 4 _ rfl
    have x5 : wr.cell? ⟨(a.add (k * 6)).block, (a.add (k * 6)).off + 5, none⟩ = some (.int .i64 x.2.2.2.cost) := hM k x hx 5 _ rfl
    have HLX := Lib.hid ((HL.out x hxm).below HO.out.b)
    obtain ⟨⟨b, od, lv, it⟩, rfl⟩ : ∃ y, x = y := ⟨_, rfl⟩
    simp only at x0 x1 x2 x3 x4 x5 HLX
    obtain ⟨p1, c1, rfl⟩ := HLX.out.slice
    have HX := Lib.hid hx
    have HXM := Lib.hid hxm
    clear hM hx hxm
    cases b
    · go_wp2_with fail
      refine (Twin_any HLX.out).mono ?_
      rintro e w2 ⟨l2, rfl, hl2, hb2⟩
      obtain ⟨p2, c2, rfl⟩ := hl2.lb.slice
      have hqs := HO.out.qa.lt
      have HL2 := Lib.hid (hl2.lb.mono (T := fun k => k ≠ p) (fun k _ hk => by omega))
      have HO2 := Lib.hid (HO.out.below hb2)
      have hb2s := hb2.size
      replace x2 := cell_below x2 hb2
      replace x3 := cell_below x3 hb2
      replace x4 := cell_below x4 hb2
      replace x5 := cell_below x5 hb2
      have HLX2 := Lib.hid (HLX.out.below hb2)
      clear hl2 hb2 HO HLX x0 x1
      go_wp2_with fail
      refine (refPush_any (x := it) HO2.out.m HL2.out (fun k hk => by omega)).mono ?_
      rintro e w3 ⟨v3, rfl, hm3, hb3⟩
      obtain ⟨p3, c3, rfl⟩ := hm3.slice
      have HM3 := Lib.hid hm3
      have HO3 := Lib.hid (HO2.out.below hb3)
      replace x2 := cell_below x2 hb3
      replace x3 := cell_below x3 hb3
      replace x4 := cell_below x4 hb3
      replace x5 := cell_below x5 hb3
      have HLX3 := Lib.hid (HLX2.out.below hb3)
      have hb3s := hb3.size
      clear hm3 hb3 HO2 HLX2 HL2
      go_wp2_with fail
      refine (push_any (x := it) HO3.out.qa HLX3.out (fun k hk => by omega)).mono ?_
      rintro e w4 ⟨rfl, hq4, hk4⟩
      have hql := HO3.out.qa.lt
      have hwp := HO3.out.lt
      have HO4 := Lib.hid (push_ps2 hq4 (HM3.out.kept hk4 (fun k _ s e => s e)) (HO3.out.b.trans (hk4.below (fun k e => by omega) HO3.out.b.size)) HO3.out)
      clear hq4 hk4 HO3 HM3 HLX3
      obtain ⟨er, her⟩ : ∃ r, pushE q it = r := ⟨_, rfl⟩
      rw [her]
      clear her
      go_wp2_with fail
      exact ⟨⟨k + 1, pushL q it, d, by simp, rfl, by omega, HO4.out⟩, by simp [intOf]; omega⟩
    · by_cases hod : od = 0
      · subst hod
        go_wp2_with fail
        refine (drrServe_all (d := d) HO.out.qa (by have := HO.out.n; omega) HO.out.c).mono ?_
        rintro e w2 ⟨v1, rfl, hi, hq, hk⟩
        have hqs := HO.out.qa.lt
        have HF := Lib.hid (svd_fair HO.out.c d)
        have HLN := Lib.hid (svd_len q d)
        have hqn := HO.out.n
        have hwp := HO.out.lt
        have HM2 := Lib.hid (HO.out.m.kept hk (fun k _ s e => s e))
        have HB2 := Lib.hid (HO.out.b.trans (hk.below (fun k e => by omega) HO.out.b.size))
        have HI2 := Lib.hid hi
        have HQ2 := Lib.hid hq
        obtain ⟨pi, ci, rfl⟩ := hi.slice
        clear hi hq hk x0 x1 x2 x3 x4 x5
        go_wp2_with fail
        refine (refServe_all (d := d) HM2.out (by omega) HO.out.c).mono ?_
        rintro e w3 ⟨v2, v3, rfl, hb, h2, h3⟩
        obtain ⟨r, hr⟩ : ∃ r, svd q d = r := ⟨_, rfl⟩
        rw [hr] at HF HLN HI2 HQ2 h2 h3 ⊢
        obtain ⟨ro, rw_, rl, re⟩ := r
        simp only at HF HLN HI2 HQ2 h2 h3 ⊢
        obtain ⟨p2, c2, rfl⟩ := h2.slice
        obtain ⟨p3, c3, rfl⟩ := h3.slice
        have HA3 := Lib.hid (HI2.out.below hb)
        have HQ3 := Lib.hid (HQ2.out.below hb)
        have HB3 := Lib.hid (below_then HB2.out hb)
        have HW3 := Lib.hid h2
        have HV3 := Lib.hid h3
        clear hr hb h2 h3 HI2 HQ2 HB2 HM2 HO
        go_wp2_with fail
        refine (Twins_any HA3.out (by have := HLN.out.1; omega)).mono ?_
        rintro e w4 ⟨v4, rs4, rfl, ht4, hb4⟩
        obtain ⟨p4, c4, rfl⟩ := ht4.all.slice
        have HT4 := Lib.hid ht4.all
        have HQ4 := Lib.hid (HQ3.out.below hb4)
        have HB4 := Lib.hid (below_then HB3.out hb4)
        have HW4 := Lib.hid (HW3.out.below hb4)
        have HV4 := Lib.hid (HV3.out.below hb4)
        clear ht4 hb4 HQ3 HB3 HW3 HV3 HA3
        go_wp2_with fail
        refine (sameAll_any HT4.out HW4.out (by have := HLN.out.1; omega)).mono ?_
        rintro e w5 ⟨rfl, hb5⟩
        have HQ5 := Lib.hid (HQ4.out.below hb5)
        have HB5 := Lib.hid (below_then HB4.out hb5)
        have HV5 := Lib.hid (HV4.out.below hb5)
        clear hb5 HQ4 HB4 HW4 HV4 HT4
        go_wp2_with fail
        refine (all_any HQ5.out (by have := HLN.out.2; omega)).mono ?_
        rintro e w6 ⟨v6, rs6, rfl, ht6, hb6⟩
        obtain ⟨p6, c6, rfl⟩ := ht6.all.slice
        have HT6 := Lib.hid ht6.all
        have HQ6 := Lib.hid (HQ5.out.below hb6)
        have HB6 := Lib.hid (below_then HB5.out hb6)
        have HV6 := Lib.hid (HV5.out.below hb6)
        clear ht6 hb6 HQ5 HB5 HV5
        go_wp2_with fail
        refine (Twins_any HT6.out (by have := HLN.out.2; omega)).mono ?_
        rintro e w7 ⟨v7, rs7, rfl, ht7, hb7⟩
        obtain ⟨p7, c7, rfl⟩ := ht7.all.slice
        have HT7 := Lib.hid ht7.all
        have HQ7 := Lib.hid (HQ6.out.below hb7)
        have HB7 := Lib.hid (below_then HB6.out hb7)
        have HV7 := Lib.hid (HV6.out.below hb7)
        clear ht7 hb7 HQ6 HB6 HV6 HT6
        go_wp2_with fail
        refine (sameAll_any HT7.out HV7.out (by have := HLN.out.2; omega)).mono ?_
        rintro e w8 ⟨rfl, hb8⟩
        have HQ8 := Lib.hid (HQ7.out.below hb8)
        have HB8 := Lib.hid (below_then HB7.out hb8)
        have HV8 := Lib.hid (HV7.out.below hb8)
        clear hb8 HQ7 HB7 HV7 HT7
        go_wp2_with fail
        exact ⟨⟨k + 1, rw_, rl, by simp, rfl, by omega, ⟨HQ8.out, HV8.out, HB8.out, hwp, by have := HLN.out.2; omega, HF.out.2⟩⟩, by simp [intOf]; omega⟩
      · go_wp2_with fail
        refine (drrServe_all (d := od) HO.out.qa (by have := HO.out.n; omega) HO.out.c).mono ?_
        rintro e w2 ⟨v1, rfl, hi, hq, hk⟩
        have hqs := HO.out.qa.lt
        have HF := Lib.hid (svd_fair HO.out.c od)
        have HLN := Lib.hid (svd_len q od)
        have hqn := HO.out.n
        have hwp := HO.out.lt
        have HM2 := Lib.hid (HO.out.m.kept hk (fun k _ s e => s e))
        have HB2 := Lib.hid (HO.out.b.trans (hk.below (fun k e => by omega) HO.out.b.size))
        have HI2 := Lib.hid hi
        have HQ2 := Lib.hid hq
        obtain ⟨pi, ci, rfl⟩ := hi.slice
        clear hi hq hk x0 x1 x2 x3 x4 x5
        go_wp2_with fail
        refine (refServe_all (d := od) HM2.out (by omega) HO.out.c).mono ?_
        rintro e w3 ⟨v2, v3, rfl, hb, h2, h3⟩
        obtain ⟨r, hr⟩ : ∃ r, svd q od = r := ⟨_, rfl⟩
        rw [hr] at HF HLN HI2 HQ2 h2 h3 ⊢
        obtain ⟨ro, rw_, rl, re⟩ := r
        simp only at HF HLN HI2 HQ2 h2 h3 ⊢
        obtain ⟨p2, c2, rfl⟩ := h2.slice
        obtain ⟨p3, c3, rfl⟩ := h3.slice
        have HA3 := Lib.hid (HI2.out.below hb)
        have HQ3 := Lib.hid (HQ2.out.below hb)
        have HB3 := Lib.hid (below_then HB2.out hb)
        have HW3 := Lib.hid h2
        have HV3 := Lib.hid h3
        clear hr hb h2 h3 HI2 HQ2 HB2 HM2 HO
        go_wp2_with fail
        refine (Twins_any HA3.out (by have := HLN.out.1; omega)).mono ?_
        rintro e w4 ⟨v4, rs4, rfl, ht4, hb4⟩
        obtain ⟨p4, c4, rfl⟩ := ht4.all.slice
        have HT4 := Lib.hid ht4.all
        have HQ4 := Lib.hid (HQ3.out.below hb4)
        have HB4 := Lib.hid (below_then HB3.out hb4)
        have HW4 := Lib.hid (HW3.out.below hb4)
        have HV4 := Lib.hid (HV3.out.below hb4)
        clear ht4 hb4 HQ3 HB3 HW3 HV3 HA3
        go_wp2_with fail
        refine (sameAll_any HT4.out HW4.out (by have := HLN.out.1; omega)).mono ?_
        rintro e w5 ⟨rfl, hb5⟩
        have HQ5 := Lib.hid (HQ4.out.below hb5)
        have HB5 := Lib.hid (below_then HB4.out hb5)
        have HV5 := Lib.hid (HV4.out.below hb5)
        clear hb5 HQ4 HB4 HW4 HV4 HT4
        go_wp2_with fail
        refine (all_any HQ5.out (by have := HLN.out.2; omega)).mono ?_
        rintro e w6 ⟨v6, rs6, rfl, ht6, hb6⟩
        obtain ⟨p6, c6, rfl⟩ := ht6.all.slice
        have HT6 := Lib.hid ht6.all
        have HQ6 := Lib.hid (HQ5.out.below hb6)
        have HB6 := Lib.hid (below_then HB5.out hb6)
        have HV6 := Lib.hid (HV5.out.below hb6)
        clear ht6 hb6 HQ5 HB5 HV5
        go_wp2_with fail
        refine (Twins_any HT6.out (by have := HLN.out.2; omega)).mono ?_
        rintro e w7 ⟨v7, rs7, rfl, ht7, hb7⟩
        obtain ⟨p7, c7, rfl⟩ := ht7.all.slice
        have HT7 := Lib.hid ht7.all
        have HQ7 := Lib.hid (HQ6.out.below hb7)
        have HB7 := Lib.hid (below_then HB6.out hb7)
        have HV7 := Lib.hid (HV6.out.below hb7)
        clear ht7 hb7 HQ6 HB6 HV6 HT6
        go_wp2_with fail
        refine (sameAll_any HT7.out HV7.out (by have := HLN.out.2; omega)).mono ?_
        rintro e w8 ⟨rfl, hb8⟩
        have HQ8 := Lib.hid (HQ7.out.below hb8)
        have HB8 := Lib.hid (below_then HB7.out hb8)
        have HV8 := Lib.hid (HV7.out.below hb8)
        clear hb8 HQ7 HB7 HV7 HT7
        go_wp2_with fail
        exact ⟨⟨k + 1, rw_, rl, by simp, rfl, by omega, ⟨HQ8.out, HV8.out, HB8.out, hwp, by have := HLN.out.2; omega, HF.out.2⟩⟩, by simp [intOf]; omega⟩
  · obtain rfl : k = xs.length := by omega
    go_wp2_with fail
    refine (awake21_any _).mono ?_
    rintro e w2 ⟨rfl, hb⟩
    have HB := Lib.hid (below_then HO.out.b hb)
    go_wp2_with fail
    go_ret
    exact ⟨rfl, HB.out⟩
theorem serves_any {v : Value} {xs : List (Bool × Int × (Value × It))} {w : World} (h : Sl (fun _ => True) w v 6 encD xs) (hl : ∀ x ∈ xs, (Lit.int .i64 x.2.1).wf = true ∧ LabO w x.2.2) : Calls Try.prog 8 #[v] w (Tells (.bool true) w) := by
  have hG := great21_any h (fun x hx => by
    obtain ⟨p, c, e, _⟩ := (hl x hx).2.1.len
    exact ⟨p, c, e⟩)
  cases hb : greatB (xs.map actI) with
  | true => rw [hb] at hG; exact serves_big hG
  | false =>
    rw [hb] at hG
    obtain ⟨h1, h2⟩ := greatB_no hb
    rw [List.length_map] at h1
    exact serves_walk h (fun x hx => ⟨(hl x hx).2.1, by have h0 : x.2.2.2.ls.length ≤ labs (xs.map actI) := labs_mem (List.mem_map_of_mem (f := actI) hx); omega⟩) hG h1
end Go.Proofs.Ythligipgmicgfaa
