/- DrrBound's walk -/
import Derived.Test.YthligipgmicgfaaDrrB
import Derived.Test.YthligipgmicgfaaDrrZ
namespace Go.Proofs.Ythligipgmicgfaa
open Go.RowKit
attribute [local go_sem] Oper.semAt_some

theorem its_of_sl {S : Nat → Prop} {W : World} {v : Value} {rs : List (Value × It)} (h : Sl S W v 4 encI rs) (hl : ∀ r ∈ rs, Lab S W r) : Its S W v (rs.map Prod.snd) := by
  rcases h with ⟨rfl, rfl⟩ | ⟨a, cap, rfl, h1, h2, h3, h4⟩
  · exact .inl ⟨rfl, rfl⟩
  · exact .inr ⟨a, cap, rs, by simp, by simpa using h2, h3, rfl, fun hp => h1 (by simpa using hp), h4, hl⟩
set_option maxRecDepth 100000 in
set_option maxHeartbeats 2000000 in
theorem Twins_big {S : Nat → Prop} {v : Value} {w : World} {xs : List It} (h : Its S w v xs) (hn : xs.length * 48 ≤ 140737488351232) : Calls Try.prog 26 #[v] w (ItsTo 45 xs w) := by
  obtain ⟨p, c, rfl⟩ := h.slice
  obtain ⟨i0, hi, hi0, hi1, hi2⟩ := info_parts info_refitem
  have HI := Lib.hid hi
  have HI0 := Lib.hid hi0
  have HI1 := Lib.hid hi1
  have HI2 := Lib.hid hi2
  have HK := Lib.hid h
  clear h hi hi0 hi1 hi2
  go_enter Try.func26, Try.ntmps26
  go_wp2
  go_loopw [3, 4] (fun o i wr => ∃ (k : Nat) (qs : List (Value × It)), i = .int .i64 k ∧ k ≤ xs.length ∧ Rws (fun b => w.heap.size ≤ b ∧ o.ownBlock ≠ some b) wr w.heap.size 45 o (xs.take k) qs ∧ Below w.heap.size w wr) (fun _ i _ => xs.length - (intOf i).toNat)
  · exact ⟨0, [], rfl, by omega, Rws.none _ _ _ _, Below.refl _ _⟩
  obtain ⟨k, qs, rfl, hk, hR, hB⟩ := hrel
  by_cases hlt : k < xs.length
  · obtain ⟨x, hx⟩ : ∃ x, xs[k]? = some x := ⟨_, List.getElem?_eq_getElem hlt⟩
    obtain ⟨a, lv, rfl, hl, x0, x1, x2, x3⟩ := (HK.out.below hB).at hx
    obtain ⟨p1, q1, rfl⟩ := hl.slice
    have HTS := Lib.hid (take_snoc hx)
    have hkk : (k : Int) < (xs.length : Int) := by omega
    have HL := Lib.hid hl
    have HR := Lib.hid hR
    have hql : qs.length < xs.length := by have := hR.len; rw [List.length_take] at this; omega
    clear hx hl hR
    go_wp2_with fail
    refine (Twin_any HL.out).mono ?_
    rintro e w1 ⟨l1, rfl, hl1, hb1⟩
    obtain ⟨p2, q2, rfl⟩ := hl1.lb.slice
    have hBs := hB.size
    have hs1 := hb1.size
    have hb2 : Below wr.heap.size wr (w1.alloc (.cells #[.slice p2 x.ls.length q2, .int .i64 x.at_, .int .i64 x.vl, .int .i64 x.cost] 45)) := hb1.alloc hb1.size _
    have hR2 := Lib.hid (HR.out.below hb2)
    have hL2 := Lib.hid ((hl1.below (W' := w1.alloc (.cells #[.slice p2 x.ls.length q2, .int .i64 x.at_, .int .i64 x.vl, .int .i64 x.cost] 45)) ((Below.refl _ w1).alloc (Nat.le_refl _) _)).mono (T := fun b => w.heap.size ≤ b ∧ u3.ownBlock ≠ some b) (fun b _ hb =>
      ⟨by omega, fun e => by have := (HR.out.own.lt b e).2; omega⟩))
    clear x0 x1 x2 x3
    go_wp2_with (at_builtin; refine wpList_append_sl encI_len rfl (.tmp 11) (.tmp 17) 41 rfl w.heap.size 45 i0 _ 48 Try.underlying41 HI.out HI0.out HI1.out HI2.out rfl (by decide) (v := u3) (xs := qs) (ys := [(.slice p2 x.ls.length q2, x)]) (by rfl) (by rfl) hR2.out.own (Sl.one (S := fun _ => True) encI_len (Box.new _ _ _) rfl trivial) one_row (by simp only [List.length_cons, List.length_nil]; unfold maxLen; omega) (by simp only [List.length_cons, List.length_nil]; omega) (by rw [World.size_alloc]; omega) ?_; intro v2 w2 hown hk2 hat)
    refine ⟨⟨k + 1, _, by simp, by omega, by rw [HTS.out]; exact hR2.out.snoc hL2.out hown hk2 hat, ?_⟩, by simp [intOf]; omega⟩
    exact (below_then hB hb2).trans (hk2.below (fun b e => by have := (HR.out.own.lt b e).1; omega) (below_then hB hb2).size)
  · obtain rfl : k = xs.length := by omega
    go_wp2
    go_ret
    rw [List.take_length] at hR
    exact ⟨_, qs, rfl, hR, hB⟩
set_option maxRecDepth 100000 in
set_option maxHeartbeats 4000000 in
theorem bound_far {S : Nat → Prop} {v : Value} {w : World} {xs : List It} {d i : Int} (h : Its S w v xs) (hn : xs.length * 48 ≤ 140737488351232) (hb : xs.length = 0 ∨ 8 < xs.length) : Calls Try.prog 9 #[v, .int .i64 d, .int .i64 i] w (Tells (.bool true) w) := by
  obtain ⟨N, hN⟩ := TN_ex xs d i
  obtain ⟨p, c, rfl⟩ := h.slice
  have HK := Lib.hid h
  have HT := Lib.hid hN
  clear h hN
  by_cases h0 : xs.length = 0
  · obtain rfl : xs = [] := List.eq_nil_of_length_eq_zero h0
    clear hb h0
    go_enter Try.func9, Try.ntmps9
    go_wp2_with fail
    refine (drrTurns_any HK.out hn HT.out).mono ?_
    rintro e w1 ⟨rfl, hb⟩
    have HK1 := Lib.hid (HK.out.below hb)
    have HB1 := Lib.hid hb
    clear hb HK
    go_wp2_with fail
    refine (Twins_big HK1.out hn).mono ?_
    rintro e w2 ⟨v2, rs2, rfl, hr, hb⟩
    have HI2 := Lib.hid hr.all
    have HB2 := Lib.hid (below_then HB1.out hb)
    obtain ⟨p2, c2, rfl⟩ := hr.all.slice
    clear hr hb HB1 HK1
    go_wp2_with fail
    refine (refTurns_any HI2.out hn HT.out).mono ?_
    rintro e w3 ⟨rfl, hb⟩
    have HB3 := Lib.hid (below_then HB2.out hb)
    clear hb HB2
    go_wp2_with fail
    refine (awake21_any _).mono ?_
    rintro e w4 ⟨rfl, hb⟩
    have HB4 := Lib.hid (below_then HB3.out hb)
    clear hb HB3
    go_wp2_with fail
    go_ret
    exact ⟨rfl, HB4.out⟩
  · have h1 : (8 : Int) < xs.length := by omega
    have h2 : ¬ (xs.length : Int) = 0 := by omega
    clear hb
    go_enter Try.func9, Try.ntmps9
    go_wp2_with fail
    refine (drrTurns_any HK.out hn HT.out).mono ?_
    rintro e w1 ⟨rfl, hb⟩
    have HK1 := Lib.hid (HK.out.below hb)
    have HB1 := Lib.hid hb
    clear hb HK
    go_wp2_with fail
    refine (Twins_big HK1.out hn).mono ?_
    rintro e w2 ⟨v2, rs2, rfl, hr, hb⟩
    have HI2 := Lib.hid hr.all
    have HB2 := Lib.hid (below_then HB1.out hb)
    obtain ⟨p2, c2, rfl⟩ := hr.all.slice
    clear hr hb HB1 HK1
    go_wp2_with fail
    refine (refTurns_any HI2.out hn HT.out).mono ?_
    rintro e w3 ⟨rfl, hb⟩
    have HB3 := Lib.hid (below_then HB2.out hb)
    clear hb HB2
    go_wp2_with fail
    refine (awake21_any _).mono ?_
    rintro e w4 ⟨rfl, hb⟩
    have HB4 := Lib.hid (below_then HB3.out hb)
    clear hb HB3
    go_wp2_with fail
    go_ret
    exact ⟨rfl, HB4.out⟩
theorem costs_take_snoc {ys : List It} {x : It} {m : Nat} : costs ((ys ++ [x]).take m) = if ys.length < m then costs (ys.take m) + x.cost else costs (ys.take m) := by
  split
  · rename_i h
    rw [List.take_of_length_le (by simp; omega), List.take_of_length_le (by omega), costs_app]
    simp [costs]
  · rw [List.take_append_of_le_length (by omega)]
set_option maxRecDepth 100000 in
set_option maxHeartbeats 1000000 in
theorem bound_near {v : Value} {w : World} {xs : List It} {dn jn : Int} (h : Its (fun _ => True) w v xs) (hn1 : 1 ≤ xs.length) (hn2 : xs.length ≤ 8) : Calls Try.prog 9 #[v, .int .i64 dn, .int .i64 jn] w (Tells (.bool true) w) := by
  obtain ⟨p, c, rfl⟩ := h.slice
  have HK := Lib.hid h
  have hx0 : ¬ xs = [] := fun e => by rw [e] at hn1; simp at hn1
  have h01 : ¬ (xs.length : Int) = 0 := by omega
  have h02 : ¬ 8 < (xs.length : Int) := by omega
  obtain ⟨d0, hd1, hd2⟩ := mod_u64 dn 257 (by omega) (by omega)
  obtain ⟨j, hj1, hj2⟩ := mod_u64 jn xs.length (by omega) (by omega)
  simp only [Int.cast_ofNat_Int] at hd1
  have HD1 := Lib.hid hd1
  have HJ1 := Lib.hid hj1
  have hlw : IntKind.u64.wrap (xs.length : Int) = xs.length := by rw [IntKind.wrap_u64]; omega
  clear h hd1 hj1
  go_enter Try.func9, Try.ntmps9
  go_wp2_with fail
  rw [HD1.out, HJ1.out]
  refine (new_any w).mono ?_
  rintro e w1 ⟨rfl, hb, hq⟩
  have HQ1 := Lib.hid hq
  have HB1 := Lib.hid hb
  clear hb hq HD1 HJ1
  obtain ⟨q, hq0⟩ : ∃ q, q = w.heap.size := ⟨_, rfl⟩
  rw [← hq0] at HQ1 ⊢
  have hwq : w.heap.size ≤ q := by omega
  clear hq0 hlw
  have hd2' : (d0 : Int) < 257 := by omega
  go_wp2_with fail
  go_loopw [8, 9] (fun cv kv wr => ∃ (k : Nat) (ys : List It), kv = .int .i64 k ∧ cv = .int .i64 (costs (ys.take (j + 1))) ∧ k ≤ xs.length ∧ ys.length = k ∧ Fair ys ∧ QAt (fun b => b ≠ q) q wr ys ∧ Below w.heap.size w wr) (fun _ kv _ => xs.length - (intOf kv).toNat)
  · exact ⟨0, [], rfl, rfl, by omega, rfl, (fun x hx => by cases hx), HQ1.out, HB1.out⟩
  obtain ⟨k, ys, rfl, rfl, hk, hyl, hf, hq, hb⟩ := hrel
  have HQ2 := Lib.hid hq
  have HB2 := Lib.hid hb
  have HF := Lib.hid hf
  have HCT := Lib.hid (fun x : It => costs_take_snoc (ys := ys) (x := x) (m := j + 1))
  have hcs := costs_le (xs := ys.take (j + 1)) (fun y hy => hf y (List.mem_of_mem_take hy))
  rw [List.length_take] at hcs
  have hcs1 := hcs.1
  have hcs2 : costs (ys.take (j + 1)) ≤ 2048 := by omega
  generalize hgc : costs (ys.take (j + 1)) = cc at *
  have HGC := Lib.hid hgc
  clear hq hb hf HQ1 HB1 hgc hcs
  have hql := HQ2.out.lt
  by_cases hlt : k < xs.length
  · obtain ⟨x, hx⟩ : ∃ x, xs[k]? = some x := ⟨_, List.getElem?_eq_getElem hlt⟩
    obtain ⟨a, lv, rfl, hl, x0, x1, x2, x3⟩ := (HK.out.below HB2.out).at hx
    obtain ⟨p1, q1, rfl⟩ := hl.slice
    have HL := Lib.hid hl
    obtain ⟨cn, hc1, hc2⟩ := mod_u64 x.cost 256 (by omega) (by omega)
    simp only [Int.cast_ofNat_Int] at hc1
    have HC1 := Lib.hid hc1
    clear hc1 hx hl
    have hkk : (k : Int) < (xs.length : Int) := by omega
    have hc0 : (0 : Int) ≤ cn := by omega
    have hc256 : (cn : Int) < 256 := by omega
    go_wp2_with fail
    rw [HC1.out, show wrap64 (1 + (cn : Int)) = 1 + (cn : Int) from IntWalk.wrap64_in _ ⟨by omega, by omega⟩]
    obtain ⟨x', hx'⟩ : ∃ x' : It, x' = ⟨x.ls, x.at_, x.vl, 1 + (cn : Int)⟩ := ⟨_, rfl⟩
    have hba := (Below.refl _ wr).alloc (Nat.le_refl _) (.cells #[.slice p1 x.ls.length q1, .int .i64 x.at_, .int .i64 x.vl, .int .i64 (1 + (cn : Int))] 32)
    have BX := Lib.hid (Box.new wr #[.slice p1 x.ls.length q1, .int .i64 x.at_, .int .i64 x.vl, .int .i64 (1 + (cn : Int))] 32)
    have HQ3 := Lib.hid (HQ2.out.below hba)
    have HL3 := Lib.hid (HL.out.below hba)
    have HB3 := Lib.hid (HB2.out.trans (hba.mono HB2.out.size))
    have hm : mayCost ⟨x.ls, x.at_, x.vl, 1 + (cn : Int)⟩ = true := fair_may.2 ⟨by show 1 ≤ 1 + (cn : Int); omega, by show 1 + (cn : Int) ≤ 256; omega⟩
    clear hba x0 x1 x2 x3 HQ2 HB2 HL
    refine (push_yes' (x := ⟨x.ls, x.at_, x.vl, 1 + (cn : Int)⟩) HQ3.out HL3.out (fun b hb => by rw [World.size_alloc] at hb; omega) hm (by omega)).mono ?_
    rintro e w2 ⟨rfl, hq, hkp⟩
    have HQ4 := Lib.hid hq
    have HB4 := Lib.hid (HB3.out.trans (hkp.below (fun b e => by omega) HB3.out.size))
    have c2 := (BX.out.kept hkp (by omega)).rd.1
    have HF4 : Hid (Fair (ys ++ [⟨x.ls, x.at_, x.vl, 1 + (cn : Int)⟩])) := Lib.hid (fun y hy => by
      rcases List.mem_append.1 hy with hy | hy
      · exact HF.out y hy
      · obtain rfl := List.mem_singleton.1 hy
        exact fair_may.1 hm)
    have hct := HCT.out ⟨x.ls, x.at_, x.vl, 1 + (cn : Int)⟩
    clear hq hkp HQ3 HB3 hm HL3 BX
    by_cases hkj : k ≤ j
    · have hkj2 : (k : Int) ≤ (j : Int) := by omega
      rw [if_pos (by omega)] at hct
      have HT4 := Lib.hid hct
      clear hct
      go_wp2_with fail
      exact ⟨⟨k + 1, _, by simp, by rw [HT4.out], by omega, by simp; exact hyl, HF4.out, HQ4.out, HB4.out⟩, by simp [intOf]; omega⟩
    · have hkj2 : ¬ (k : Int) ≤ (j : Int) := by omega
      rw [if_neg (by omega)] at hct
      have HT4 := Lib.hid hct
      clear hct
      go_wp2_with fail
      exact ⟨⟨k + 1, _, by simp, by rw [HT4.out], by omega, by simp; exact hyl, HF4.out, HQ4.out, HB4.out⟩, by simp [intOf]; omega⟩
  · obtain rfl : k = xs.length := by omega
    have HYL := Lib.hid hyl
    obtain ⟨N, hN⟩ := TN_ex ys d0 j
    have HN := Lib.hid hN
    have HTN := Lib.hid (hN.ok ⟨by omega, by omega, by omega, by omega, by omega, HF.out⟩)
    have hN0 : 1 ≤ N := by
      have := HTN.out
      match N, this with
      | 0, h => cases h with
        | done h1 => omega
      | n + 1, _ => omega
    have hNb : N ≤ 10000 := hN.le
    have hHi : 64 * ((N : Int) - 1) < cc := by
      have h1 := HTN.out
      match N, h1, hN0 with
      | n + 1, h1, _ =>
        have h2 := tn_hi h1 HF.out (by omega)
        have h3 : must (ys.length - 1 - (j : Int).toNat) ys = cc := by
          rw [← HGC.out]
          unfold must
          rw [show ys.length - (ys.length - 1 - (j : Int).toNat) = j + 1 from by simp; omega]
        rw [h3] at h2
        omega
    have hLo : d0 = 0 → cc ≤ 64 * (N : Int) := fun e => by
      have h2 := tn_lo HTN.out HF.out (by omega)
      have h3 : must (ys.length - 1 - (j : Int).toNat) ys = cc := by
        rw [← HGC.out]
        unfold must
        rw [show ys.length - (ys.length - 1 - (j : Int).toNat) = j + 1 from by simp; omega]
      rw [h3] at h2
      omega
    have HHI := Lib.hid hHi
    have HLO := Lib.hid hLo
    have hy8 : ys.length ≤ 8 := by omega
    have hyj : j < ys.length := by omega
    clear hN hHi hLo HGC HCT hyl
    go_wp2_with fail
    refine (all_any HQ2.out (by omega)).mono ?_
    rintro e w2 ⟨v2, rs2, rfl, hr, hb⟩
    have HI3 := Lib.hid hr.all
    have HQ3 := Lib.hid (HQ2.out.below hb)
    have HB3 := Lib.hid (below_then HB2.out hb)
    obtain ⟨p2, c2, rfl⟩ := hr.all.slice
    clear hr hb HQ2 HB2 HK
    go_wp2_with fail
    refine (drrTurns_any HI3.out (by omega) HN.out).mono ?_
    rintro e w3 ⟨rfl, hb⟩
    have HI4 := Lib.hid (HI3.out.below hb)
    have HQ4 := Lib.hid (HQ3.out.below hb)
    have HB4 := Lib.hid (below_then HB3.out hb)
    clear hb HQ3 HB3 HI3
    have hsz4 : q < w3.heap.size := HQ4.out.lt
    have HI5 : Hid (Its (fun k => q < k) w3 (.slice p2 ys.length c2) ys) := Lib.hid (HI4.out.mono (fun k _ hk => by omega))
    have hjt : (j : Int).toNat = j := Int.toNat_natCast j
    rw [hjt] at HTN
    clear hjt HI4
    go_wp2_with fail
    go_loopw [15, 16, 17] (fun sv_ dv kv wr => ∃ (k s : Nat) (rest : List It) (e : Int), kv = .int .i64 k ∧ sv_ = .int .i64 s ∧ dv = .int .i64 e ∧ 1 ≤ k ∧ k ≤ N + 1 ∧ s + rest.length = ys.length ∧ 0 ≤ e ∧ e ≤ 256 ∧ Fair rest ∧ Tn (ys.length - 1 - j) rest e (N + 1 - k) ∧ QAt (fun b => b ≠ q) q wr rest ∧ Its (fun k => q < k) wr (.slice p2 ys.length c2) ys ∧ Below w.heap.size w wr) (fun _ _ kv _ => N + 1 - (intOf kv).toNat)
    · exact ⟨1, 0, ys, d0, rfl, rfl, rfl, by omega, by omega, by omega, by omega, by omega, HF.out, HTN.out, HQ4.out, HI5.out, HB4.out⟩
    obtain ⟨k, s, rest, e, rfl, rfl, rfl, hk1, hk2, hsr, he0, he1, hfr, hT, hq, hi, hb⟩ := hrel
    have HQ5 := Lib.hid hq
    have HI6 := Lib.hid hi
    have HB5 := Lib.hid hb
    have HFR := Lib.hid hfr
    have HT5 := Lib.hid hT
    have HSR := Lib.hid hsr
    have hql5 := hq.lt
    have hs8 : s ≤ 8 := by omega
    have hr8 : rest.length ≤ 8 := by omega
    clear hq hi hb hfr hT hsr HQ4 HI5 HB4 HTN
    by_cases hkN : k ≤ N
    · have hkN1 : (k : Int) ≤ (N : Int) := by omega
      go_wp2_with fail
      refine (drrServe_any HQ5.out he0 he1 (by omega) HFR.out).mono ?_
      rintro e1 w4 ⟨v5, rs5, rfl, hr, hq, hkp⟩
      have hv := sv_left (xs := rest) (d := e + 64) HFR.out (by omega)
      have hv1 := hv.1
      have hv2 := hv.2
      have hsl := sv_len rest (e + 64)
      have hfr2 := HFR.out.rest (e + 64)
      have hT2 : Tn (ys.length - 1 - j) (sv rest (e + 64)).2.1 (sv rest (e + 64)).2.2 (N - k) := by
        have h1 := HT5.out
        generalize hz : N + 1 - k = z at h1
        cases h1 with
        | done _ => omega
        | @turn _ _ n _ h2 =>
          have e0 : N - k = n := by omega
          rw [e0]; exact h2
      have hI := hr.all
      generalize hgo : (sv rest (e + 64)).1 = out at *
      generalize hgl : (sv rest (e + 64)).2.2 = left at *
      generalize hgr : (sv rest (e + 64)).2.1 = rest2 at *
      clear hgo hgl hgr hr hv
      obtain ⟨p5, c5, rfl⟩ := hI.slice
      have HSR2 : Hid (s + out.length + rest2.length = ys.length) := Lib.hid (by have := HSR.out; omega)
      have HFR2 := Lib.hid hfr2
      have HT6 := Lib.hid hT2
      have HQ6 := Lib.hid hq
      have HI7 := Lib.hid (HI6.out.kept hkp (fun b _ s e => by omega))
      have HB6 := Lib.hid (HB5.out.trans (hkp.below (fun b e => by omega) HB5.out.size))
      have ho8 : out.length ≤ 8 := by omega
      clear hI hfr2 hT2 hq hkp hsl HQ5 HI6 HB5 HFR HT5 HSR
      by_cases hkl : k < N
      · have hkl1 : (k : Int) < (N : Int) := by omega
        have hsj : ¬ (j : Int) < (s : Int) + (out.length : Int) := by
          have h1 := HT6.out
          rw [show N - k = (N - k - 1) + 1 from by omega] at h1
          have h2 := h1.wait
          have h3 := HSR2.out
          omega
        go_wp2_with fail
        exact ⟨⟨k + 1, s + out.length, _, _, by simp, by simp, rfl, by omega, by omega, HSR2.out, hv1, hv2, HFR2.out, by rw [show N + 1 - (k + 1) = N - k from by omega]; exact HT6.out, HQ6.out, HI7.out, HB6.out⟩, by simp [intOf]; omega⟩
      · have hkl1 : ¬ (k : Int) < (N : Int) := by omega
        go_wp2_with fail
        all_goals exact ⟨⟨k + 1, s + out.length, _, _, by simp, by simp, rfl, by omega, by omega, HSR2.out, hv1, hv2, HFR2.out, by rw [show N + 1 - (k + 1) = N - k from by omega]; exact HT6.out, HQ6.out, HI7.out, HB6.out⟩, by simp [intOf]; omega⟩
    · have hkN1 : ¬ (k : Int) ≤ (N : Int) := by omega
      have hsj : (j : Int) < (s : Int) := by
        have h1 := HT5.out
        rw [show N + 1 - k = 0 from by omega] at h1
        cases h1 with
        | done h2 => have h3 := HSR.out; omega
      have hN1 : (1 : Int) ≤ (N : Int) := by omega
      have hmost : (N : Int) ≤ (cc + 64 - 1) / 64 := by have := HHI.out; omega
      by_cases hd00 : d0 = 0
      · have hmq : ((cc + 64 - 1) / 64 : Int) = N := by have := HHI.out; have := HLO.out hd00; omega
        have hdz : ¬ 0 < (d0 : Int) := by omega
        have HN2 : Hid (TN ys 0 (↑j) N) := Lib.hid (by have := HN.out; rw [hd00] at this; exact this)
        subst hd00
        go_wp2_with fail
        refine (Twins_big HI6.out (by omega)).mono ?_
        rintro e2 w6 ⟨v6, rs6, rfl, hr, hb⟩
        have HI8 := Lib.hid hr.all
        have HB8 := Lib.hid (below_then HB5.out hb)
        obtain ⟨p6, c6, rfl⟩ := hr.all.slice
        clear hr hb HB5 HI6
        go_wp2_with fail
        refine (refTurns_any HI8.out (by omega) HN2.out).mono ?_
        rintro e3 w7 ⟨rfl, hb⟩
        have HB9 := Lib.hid (below_then HB8.out hb)
        clear hb HB8 HI8
        go_wp2_with fail
        refine (awake21_any _).mono ?_
        rintro e4 w8 ⟨rfl, hb⟩
        have HB10 := Lib.hid (below_then HB9.out hb)
        clear hb HB9
        go_wp2_with fail
        go_ret
        exact ⟨rfl, HB10.out⟩
      · have hdz : 0 < (d0 : Int) := by omega
        go_wp2_with fail
        refine (Twins_big HI6.out (by omega)).mono ?_
        rintro e2 w6 ⟨v6, rs6, rfl, hr, hb⟩
        have HI8 := Lib.hid hr.all
        have HB8 := Lib.hid (below_then HB5.out hb)
        obtain ⟨p6, c6, rfl⟩ := hr.all.slice
        clear hr hb HB5 HI6
        go_wp2_with fail
        refine (refTurns_any HI8.out (by omega) HN.out).mono ?_
        rintro e3 w7 ⟨rfl, hb⟩
        have HB9 := Lib.hid (below_then HB8.out hb)
        clear hb HB8 HI8
        go_wp2_with fail
        refine (awake21_any _).mono ?_
        rintro e4 w8 ⟨rfl, hb⟩
        have HB10 := Lib.hid (below_then HB9.out hb)
        clear hb HB9
        go_wp2_with fail
        go_ret
        exact ⟨rfl, HB10.out⟩
theorem bound_any {v : Value} {rs : List (Value × It)} {w : World} {d i : Int} (h : Sl (fun _ => True) w v 4 encI rs) (hl : ∀ r ∈ rs, LabO w r) (hs : rs.length * 48 ≤ 140737488351232 ∧ ∀ r ∈ rs, r.2.ls.length * 32 ≤ 140737488351232) (_ : (Lit.int .i64 d).wf = true) (_ : (Lit.int .i64 i).wf = true) : Calls Try.prog 9 #[v, .int .i64 d, .int .i64 i] w (Tells (.bool true) w) := by
  have hi := its_of_sl h (fun r hr => ⟨(hl r hr).1, hs.2 r hr⟩)
  have hll : (rs.map Prod.snd).length = rs.length := List.length_map ..
  by_cases hb : rs.length = 0 ∨ 8 < rs.length
  · exact bound_far hi (by rw [hll]; exact hs.1) (by rw [hll]; exact hb)
  · exact bound_near hi (by rw [hll]; omega) (by rw [hll]; omega)
end Go.Proofs.Ythligipgmicgfaa
