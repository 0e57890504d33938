/- OutboxPlays' walk. (Printed by tools/mkplays.py.) -/
import Derived.Test.YtfaafndaelmbfaaOPls
import Derived.Deep.CutBlock
namespace Go.Proofs.Ytfaafndaelmbfaa
open Go.RowKit
attribute [local go_sem] Oper.semAt_some

set_option maxRecDepth 100000 in
set_option maxHeartbeats 16000000 in
theorem outboxPlays_any {v1 v2 : Value} {ms : List Ow} {l : List (Int × Mr × Int)} {w : World} (h1 : Sl (fun _ => True) w v1 7 encO ms) (hm1 : ∀ x ∈ ms, Mo (fun _ => True) w x.m ∧ (Lit.int .i64 x.tr).wf = true ∧ (Lit.int .i64 x.nx).wf = true) (h2 : Sl (fun _ => True) w v2 7 encT l) (hm2 : ∀ x ∈ l, (Lit.int .u8 x.1).wf = true ∧ Mo (fun _ => True) w x.2.1 ∧ (Lit.int .i64 x.2.2).wf = true) :
    Calls Try.prog 7 #[v1, v2] w (Tells (.bool true) w) := by
  obtain ⟨p1, c1, rfl, -, -⟩ := h1.len
  obtain ⟨p2, c2, rfl, -, -⟩ := h2.len
  have HGR := Lib.hid (great_any h2 (fun x hx => (hm2 x hx).2.1))
  have H1 := Lib.hid (h1.mono (T := fun b => b < w.heap.size) (fun b hb _ => hb))
  have H2 := Lib.hid (h2.mono (T := fun b => b < w.heap.size) (fun b hb _ => hb))
  have HM1 : Hid (∀ x ∈ ms, Mo (fun b => b < w.heap.size) w x.m) := Lib.hid fun x hx => (hm1 x hx).1.mono (fun b hb _ => hb)
  have HM2 : Hid (∀ x ∈ l, (Lit.int .u8 x.1).wf = true ∧ Mo (fun b => b < w.heap.size) w x.2.1) := Lib.hid fun x hx => ⟨(hm2 x hx).1, (hm2 x hx).2.1.mono (fun b hb _ => hb)⟩
  clear h1 h2 hm1 hm2
  go_enter Try.func7, Try.ntmps7
  go_wp2_with fail
  refine HGR.out.mono ?_
  rintro e w1 ⟨bg, rfl, hbg, hb⟩
  have HB1 := Lib.hid hb
  cases bg with
  | true =>
    clear hbg hb
    go_wp2_with fail
    go_ret
    exact ⟨rfl, HB1.out⟩
  | false =>
    obtain ⟨g1, g2⟩ := hbg rfl
    have HG2 := Lib.hid g2
    clear hbg hb g2 HGR
    rcases Int.lt_or_le 20 (ms.length : Int) with g3 | g3
    · go_wp2_with fail
      go_ret
      exact ⟨rfl, HB1.out⟩
    have H11 := Lib.hid (H1.out.below HB1.out)
    go_wp2_with fail
    go_loopw [5] (fun iv_ wr => ∃ k : Nat, iv_ = .int .i64 k ∧ k ≤ ms.length ∧ (∀ x ∈ ms.take k, x.m.m.ks.length ≤ 200 ∧ x.m.m.ss.length ≤ 200) ∧ w1 = wr) (fun iv_ _ => ms.length - (intOf iv_).toNat)
    · exact ⟨0, rfl, by omega, (fun x hx => by simp at hx), rfl⟩
    obtain ⟨k, rfl, hk, hf, rfl⟩ := hrel
    have HF := Lib.hid hf
    clear hf
    by_cases hlt : k < ms.length
    · obtain ⟨⟨⟨kv, sv, m⟩, tr, nx⟩, hx⟩ : ∃ x, ms[k]? = some x := ⟨_, List.getElem?_eq_getElem hlt⟩
      obtain ⟨ad, rfl, -, -, hrow⟩ := H11.out.at hx
      obtain ⟨-, -, -, y3, y4, -, -⟩ := Co.of hrow hx
      have hm := HM1.out _ (List.mem_of_getElem? hx)
      obtain ⟨q1, d1, e3, -, -⟩ := hm.k.len
      obtain ⟨q2, d2, e4, -, -⟩ := hm.s.len
      simp only at e3 e4 y3 y4
      subst e3 e4
      have HX := Lib.hid hx
      have hkk : (k : Int) < (ms.length : Int) := by omega
      clear hx hrow hm
      rcases Int.lt_or_le 200 (m.ks.length : Int) with g4 | g4
      · go_wp2_with fail
        go_ret
        exact ⟨rfl, HB1.out⟩
      rcases Int.lt_or_le 200 (m.ss.length : Int) with g5 | g5
      · go_wp2_with fail
        go_ret
        exact ⟨rfl, HB1.out⟩
      have HFN : Hid (∀ x ∈ ms.take (k + 1), x.m.m.ks.length ≤ 200 ∧ x.m.m.ss.length ≤ 200) := Lib.hid (by
        intro y hy
        rw [take_snoc' HX.out] at hy
        rcases List.mem_append.1 hy with hy | hy
        · exact HF.out y hy
        · obtain rfl := List.mem_singleton.1 hy
          exact ⟨by simp only; omega, by simp only; omega⟩)
      go_wp2_with fail
      exact ⟨⟨k + 1, by simp, by omega, HFN.out, by trivial⟩, by simp [intOf]; omega⟩
    · obtain rfl : k = ms.length := by omega
      rw [List.take_length] at HF
      have HRF1 : Hid (Rf (fun b => b < w.heap.size) (fun b => b < w.heap.size) w1 (.slice p1 ms.length c1) (ms.map Ow.pl)) := Lib.hid ⟨ms, rfl, H11.out, fun x hx => (HM1.out x hx).below HB1.out⟩
      have HFO : Hid (FewO (ms.map Ow.pl)) := Lib.hid (by
        intro y hy
        obtain ⟨x, hx, rfl⟩ := List.mem_map.1 hy
        have := HF.out x hx
        exact ⟨by show x.m.m.ks.length ≤ 100000; omega, by show x.m.m.ss.length ≤ 100000; omega⟩)
      have hml : ms.length ≤ 20 := by omega
      go_wp2_with fail
      refine (of_any HRF1.out.osl HFO.out).mono ?_
      rintro e w2 (⟨hg, p, rfl, hX, hb⟩ | ⟨hg, rfl, hb⟩)
      · have HRF2 := Lib.hid (HRF1.out.below hb)
        have HB2 := Lib.hid (HB1.out.trans (hb.mono HB1.out.size))
        have HX2 : Hid (BxM (fun b => b < w1.heap.size) p w2 (ms.map Ow.pl)) := Lib.hid (hX.turn (fun b _ h => .inl h))
        have HPG := Lib.hid (hg.pg HFO.out)
        have HG := Lib.hid hg
        have HS12 := Lib.hid hb.size
        clear hX hb hg
        go_wp2_with fail
        refine (rof_any HRF2.out.osl (by rw [List.length_map]; omega)).mono ?_
        rintro e w3 ⟨c, rfl, hc, hb⟩
        obtain rfl : c = 0 := by
          rcases hc with hc | hc
          · exact hc.1
          · exact absurd HG.out hc.2
        have HPS : Hid (PS w p 0 (ms.map Ow.pl) (.slice p1 ms.length c1) w3) := Lib.hid ⟨⟨fun b => b < w1.heap.size, HX2.out.below hb, fun b h => by have := HS12.out; have := hb.size; omega, fun b h => by have := HB1.out.size; omega, (HRF2.out.below hb).mono (fun _ _ a => a) (fun b _ s => by have := HB1.out.size; omega)⟩, HPG.out, HB2.out.trans (hb.mono HB2.out.size)⟩
        clear hc hb HRF2 HX2 HPG HG HB2 HS12
        go_wp2_with fail
        go_loopw [8, 9, 10, 11, 12, 13, 14, 15, 16, 17, 18, 19, 20, 21] (fun m_ iv_ _ _ _ _ _ _ _ _ _ _ _ _ wr => ∃ (i : Nat) (xs : List Ox), iv_ = .int .i64 i ∧ i ≤ l.length ∧ PS w p i xs m_ wr) (fun _ iv_ _ _ _ _ _ _ _ _ _ _ _ _ _ => l.length - (intOf iv_).toNat)
        · exact ⟨0, _, rfl, by omega, HPS.out⟩
        clear HPS
        obtain ⟨i, xs, rfl, hi, hP⟩ := hrel
        by_cases hil : i < l.length
        · obtain ⟨⟨kd, ⟨kv, sv, m⟩, n⟩, hx⟩ : ∃ x, l[i]? = some x := ⟨_, List.getElem?_eq_getElem hil⟩
          obtain ⟨⟨M, hX, hM, hA, hR⟩, hpg, hbl⟩ := hP
          obtain ⟨p0, c0, e0⟩ := hR.osl.slice
          subst e0
          have hm := (HM2.out _ (List.mem_of_getElem? hx)).2.below hbl
          have hf := HG2.out _ (List.mem_of_getElem? hx)
          have hkd := (HM2.out _ (List.mem_of_getElem? hx)).1
          simp only at hm hf hkd
          obtain ⟨q1, d1, e3, -, -⟩ := hm.k.len
          obtain ⟨q2, d2, e4, -, -⟩ := hm.s.len
          simp only at e3 e4
          subst e3 e4
          obtain ⟨ad, rfl, -, -, hrow⟩ := (H2.out.below hbl).at hx
          obtain ⟨x0, x1, x2, x3, x4, x5, x6⟩ := cells_T hrow hx
          simp only at x0 x1 x2 x3 x4 x5 x6
          have hii : (i : Int) < (l.length : Int) := by omega
          have hb1 : Below wr.heap.size wr (wr.alloc (.cells #[.int .u8 kd, .int .u32 m.rule, .string m.route, .int .i64 m.at_, .slice q1 m.ks.length d1, .slice q2 m.ss.length d2, .int .i64 n] 46)) := (Below.refl _ wr).alloc (Nat.le_refl _) _
          have b10 := Box.new wr #[.int .u8 kd, .int .u32 m.rule, .string m.route, .int .i64 m.at_, .slice q1 m.ks.length d1, .slice q2 m.ss.length d2, .int .i64 n] 46
          have HX0 := Lib.hid (hX.grow hb1)
          have HR0 := Lib.hid (hR.below hb1)
          have HMO := Lib.hid (hm.below hb1)
          have HBL := Lib.hid (hbl.trans (hb1.mono hbl.size))
          have HA := Lib.hid hA
          have HPG := Lib.hid hpg
          have HFW : Hid (Few m) := Lib.hid ⟨by omega, by omega⟩
          have HSW := Lib.hid hbl.size
          have hxl := hpg.len
          clear hx hX hR hpg hbl hm hf hA hrow hb1
          go_upto_block 4 with fail
          obtain ⟨W1, hW1⟩ : ∃ W1, (wr.alloc (.cells #[.int .u8 kd, .int .u32 m.rule, .string m.route, .int .i64 m.at_, .slice q1 m.ks.length d1, .slice q2 m.ss.length d2, .int .i64 n] 46)) = W1 := ⟨_, rfl⟩
          rw [hW1] at b10 HX0 HR0 HMO HBL ⊢
          have hl10 := b10.lt
          obtain ⟨t10, ht10⟩ : ∃ t10, wr.heap.size = t10 := ⟨_, rfl⟩
          rw [ht10] at b10 hl10 HX0 HSW hM ⊢
          have HM := Lib.hid hM
          have H10 := Lib.hid b10
          clear hW1 ht10 b10 x0 x1 x2 x3 x4 x5 x6 hM
          have c10 := H10.out.rd.1
          obtain ⟨kq, hkq⟩ : ∃ kq, kd.tmod 4 = kq := ⟨_, rfl⟩
          go_cut [8, 11, 12, 13, 14, 15, 16, 17, 18, 19] from 73 to 187 (fun m_ _ _ _ _ _ _ _ _ _ wc => ∃ ys : List Ox, PS w p (i + 1) ys m_ wc)
          case first =>
            by_cases g6 : kq = 2
            · have q6 : (kq == 2) = true := by simp [g6]
              clear g6
              go_wp2_with fail
              refine (pump_m (at_ := n) HX0.out (by omega) HPG.out.few (HPG.out.ok (by omega))).mono ?_
              rintro e w2 ⟨v2, os, rfl, hos, hRw, hN, hk⟩
              obtain ⟨pa, da, rfl⟩ := owns_slice hRw.own
              have hk' : Kept (fun b => ¬ (M b ∨ (t10 ≤ b ∧ b < W1.heap.size))) W1 w2 := hk
              have HK2 := Lib.hid hk'
              have HX2 := Lib.hid hN
              have HR2 := Lib.hid (HR0.out.kept hk' (fun b _ a f => f (.inl (HA.out b a))) (fun b _ s f => f (.inl s)))
              have H102 := Lib.hid (H10.out.kept hk' (fun f => f (.inr ⟨Nat.le_refl _, hl10⟩)))
              have HOS := Lib.hid hos
              have HSL := Lib.hid (Sl.owned encM_len hRw.own)
              have HMW := Lib.hid hRw.mw
              have HNE := Lib.hid hRw.ne
              have HMSL := Lib.hid hRw.msl
              have hol : os.length ≤ 6 := by
                rw [← List.length_map (f := Mr.m), hos]
                have := sendO_len xs n
                omega
              clear hos hRw hN hk hk' c10
              have c10 := H102.out.rd.1
              go_wp2_with fail
              refine (rpump_any (t := n) HR2.out (fun b hb => by have := HBL.out.size; have := HK2.out.size; omega) (by omega) (HPG.out.ok (by omega))).mono ?_
              rintro e w3 ⟨ov, lv, os', ls, rfl, hU⟩
              obtain ⟨pb, db, e1⟩ := owns_slice hU.ro.own
              obtain ⟨pc, dc, e2⟩ := owns_slice hU.rl.own
              subst e1 e2
              have ho := hU.eo
              have hl := hU.el
              rw [List.take_length] at ho hl
              have HRN : Hid (Rf (fun b => b < w.heap.size) (fun b => w2.heap.size ≤ b) w3 (.slice pc ls.length dc) (sendL xs n)) := Lib.hid (by rw [← hl]; exact hU.rl.rf)
              have HB3 := Lib.hid hU.below
              have HSM := Lib.hid (sames_any (xs := sendO xs n) (by rw [← HOS.out]; exact HMSL.out.below hU.below) (by rw [← ho]; exact hU.ro.msl) (sendO_few HPG.out.few) (by have := sendO_len xs n; omega))
              clear ho hl hU c10 HMSL
              go_wp2_with fail
              refine HSM.out.mono ?_
              rintro e w4 ⟨rfl, hb⟩
              have HB4 := Lib.hid hb
              have HSL4 := Lib.hid ((HSL.out.below HB3.out).below hb)
              have HWR4 : Hid (∀ r ∈ os, Wr w4 r.kv r.m.ks.length ∧ Wr w4 r.sv r.m.ss.length) := Lib.hid fun r hr => ⟨((Wr.of (HMW.out r hr).k).shapes (Shapes.below HB3.out)).shapes (Shapes.below hb), ((Wr.of (HMW.out r hr).s).shapes (Shapes.below HB3.out)).shapes (Shapes.below hb)⟩
              have HFF : Hid (∀ b, Fss os b → (W1.heap.size ≤ b ∧ b < w2.heap.size) ∧ (Value.slice pa os.length da).ownBlock ≠ some b) := Lib.hid fun b hf => by
                obtain ⟨r, hr, h⟩ := hf
                rcases h with h | h
                · exact ⟨(HMW.out r hr).k.lt b h, fun e => (HNE.out r hr b e).1 h⟩
                · exact ⟨(HMW.out r hr).s.lt b h, fun e => (HNE.out r hr b e).2 h⟩
              have HFL : Hid (∀ r ∈ os, Few r.m) := Lib.hid fun r hr => sendO_few HPG.out.few _ (by rw [← HOS.out]; exact List.mem_map_of_mem hr)
              have hz4 : w2.heap.size ≤ w4.heap.size := Nat.le_trans HB3.out.size hb.size
              have HZ4 := Lib.hid hz4
              clear hb hz4 HSM HSL
              go_wp2_with fail
              go_loopw [14] (fun iv_ wx => ∃ k : Nat, iv_ = .int .i64 k ∧ k ≤ os.length ∧ Kept (Fss os) w4 wx ∧ Shapes w4 wx) (fun iv_ _ => os.length - (intOf iv_).toNat)
              · exact ⟨0, rfl, by omega, Kept.refl _ _, Shapes.refl _⟩
              obtain ⟨k, rfl, hk, hK, hS⟩ := hrel
              have HK := Lib.hid hK
              have HS := Lib.hid hS
              clear hK hS
              by_cases hlk : k < os.length
              · obtain ⟨⟨kv, sv, mm⟩, hr⟩ : ∃ r, os[k]? = some r := ⟨_, List.getElem?_eq_getElem hlk⟩
                have hmem := List.mem_of_getElem? hr
                have hw := HMW.out _ hmem
                obtain ⟨qa, da2, e3⟩ := owns_slice hw.k
                obtain ⟨qb, db2, e4⟩ := owns_slice hw.s
                simp only at e3 e4
                subst e3 e4
                obtain ⟨a2, rfl, -, -, hrow⟩ := (HSL4.out.kept HK.out (fun b _ s f => (HFF.out b f).2 s)).at hr
                obtain ⟨y0, y1, y2, y3, y4⟩ := cells_M hrow hr
                simp only at y0 y1 y2 y3 y4
                have hkk : (k : Int) < (os.length : Int) := by omega
                have HSP := Lib.hid (spoil_any (w := wr) (m := mm) ((HWR4.out _ hmem).1.shapes HS.out) ((HWR4.out _ hmem).2.shapes HS.out) (HFL.out _ hmem) (fun b f => by have := (HFF.out b ⟨_, hmem, f⟩).1.2; have := HZ4.out; have := HK.out.size; omega))
                have HMEM := Lib.hid hmem
                clear hr hmem hw hrow
                go_wp2_with fail
                refine HSP.out.mono ?_
                rintro e w5 ⟨rfl, hk5, hs5⟩
                have HK5 := Lib.hid (HK.out.trans hk5 (fun _ _ x => x) (fun b _ f => ⟨_, HMEM.out, f⟩))
                have HS5 := Lib.hid (HS.out.trans hs5)
                clear hk5 hs5 y0 y1 y2 y3 y4 HSP
                go_wp2_with fail
                exact ⟨⟨k + 1, by simp, by omega, HK5.out, HS5.out⟩, by simp [intOf]; omega⟩
              · obtain rfl : k = os.length := by omega
                have HPS := Lib.hid (ps_pump (n := i + 1) HM.out HA.out (Nat.le_of_lt hl10) HBL.out HK2.out HX2.out HRN.out HB3.out HB4.out HK.out (fun b f => (HFF.out b f).1) HPG.out.send)
                go_wp2_with fail
                go_meet
                case rel => exact ⟨_, HPS.out⟩
            · have q6 : (kq == 2) = false := by simp [g6]
              clear g6
              by_cases g7 : kq = 3
              · have q7 : (kq == 3) = true := by simp [g7]
                clear g7
                go_wp2_with fail
                refine (rackf_any (r := m.rule) (i := m.at_) HR0.out (fun b hb => by have := HBL.out.size; omega) (by omega)).mono ?_
                rintro e w2 ⟨v2, rfl, hR2, hb⟩
                obtain ⟨pa, da, e1⟩ := hR2.osl.slice
                subst e1
                have HR2 : Hid (Rf (fun b => b < w.heap.size) (fun b => W1.heap.size ≤ b) w2 (.slice pa (rackL xs m.rule m.at_).length da) (ackL xs m.rule m.at_)) := Lib.hid (by have h := hR2; rw [rack_eq HPG.out.uq] at h ⊢; exact h)
                have HB2 := Lib.hid hb
                have HX2 := Lib.hid (HX0.out.grow hb)
                have H102 := Lib.hid (H10.out.below hb)
                have HAK := Lib.hid (ack_m (r := m.rule) (i := m.at_) HX2.out (by omega))
                have HAL : Hid (hasR xs m.rule m.at_ = decide ((rackL xs m.rule m.at_).length < xs.length)) := Lib.hid (by rw [rack_eq HPG.out.uq]; exact ack_len)
                clear hR2 hb c10
                have c10 := H102.out.rd.1
                cases hhas : hasR xs m.rule m.at_ with
                | true =>
                  have hlt : ((rackL xs m.rule m.at_).length : Int) < (xs.length : Int) := by
                    have h := HAL.out
                    rw [hhas] at h
                    have := of_decide_eq_true h.symm
                    omega
                  have HH := Lib.hid hhas
                  clear hhas
                  go_wp2_with fail
                  refine HAK.out.mono ?_
                  rintro e w3 ⟨rfl, hN, hk⟩
                  rw [HH.out]
                  have HPS := Lib.hid (ps_ack (n := i + 1) HM.out HA.out (Nat.le_of_lt hl10) HBL.out HR2.out HB2.out hk hN (HPG.out.ack.mono (Nat.le_succ i)))
                  clear hN hk
                  go_wp2_with fail
                  go_meet
                  case rel => exact ⟨_, HPS.out⟩
                | false =>
                  have hlt : ¬ ((rackL xs m.rule m.at_).length : Int) < (xs.length : Int) := by
                    have h := HAL.out
                    rw [hhas] at h
                    have := of_decide_eq_false h.symm
                    omega
                  have HH := Lib.hid hhas
                  clear hhas
                  go_wp2_with fail
                  refine HAK.out.mono ?_
                  rintro e w3 ⟨rfl, hN, hk⟩
                  rw [HH.out]
                  have HPS := Lib.hid (ps_ack (n := i + 1) HM.out HA.out (Nat.le_of_lt hl10) HBL.out HR2.out HB2.out hk hN (HPG.out.ack.mono (Nat.le_succ i)))
                  clear hN hk
                  go_wp2_with fail
                  go_meet
                  case rel => exact ⟨_, HPS.out⟩
              · have q7 : (kq == 3) = false := by simp [g7]
                clear g7
                go_wp2_with fail
                refine (ltwin_any (x := ⟨.slice q1 m.ks.length d1, .slice q2 m.ss.length d2, m⟩) HMO.out HFW.out).mono ?_
                rintro e w2 ⟨⟨kv, sv, mm⟩, rfl, hrm, hmw, hb⟩
                obtain rfl : mm = m := hrm
                obtain ⟨q3, d3, e3⟩ := owns_slice hmw.k
                obtain ⟨q4, d4, e4⟩ := owns_slice hmw.s
                simp only at e3 e4
                subst e3 e4
                have hb3 : Below w2.heap.size w2 (w2.alloc (.cells (mc ⟨.slice q3 mm.ks.length d3, .slice q4 mm.ss.length d4, mm⟩) 31)) := (Below.refl _ w2).alloc (Nat.le_refl _) _
                have b16 := Box.new w2 (mc ⟨.slice q3 mm.ks.length d3, .slice q4 mm.ss.length d4, mm⟩) 31
                have hb13 := below_then hb hb3
                have h103 := H10.out.below hb13
                have hmw3 := hmw.below hb3
                have hsw2 := hb.size
                clear c10
                go_upto_region 21 with fail
                obtain ⟨W3, hW3⟩ : ∃ W3, (w2.alloc (.cells (mc ⟨.slice q3 mm.ks.length d3, .slice q4 mm.ss.length d4, mm⟩) 31)) = W3 := ⟨_, rfl⟩
                rw [hW3] at b16 hb13 h103 hmw3 ⊢
                have hl16 := b16.lt
                obtain ⟨t16, ht16⟩ : ∃ t16, w2.heap.size = t16 := ⟨_, rfl⟩
                rw [ht16] at b16 hl16 hsw2 ⊢
                have HB13 := Lib.hid hb13
                have HX3 := Lib.hid (HX0.out.grow hb13)
                have HMW3 := Lib.hid hmw3
                have H103 := Lib.hid h103
                have H163 := Lib.hid b16
                have HL16 := Lib.hid hl16
                have HSW2 := Lib.hid hsw2
                have HADD := Lib.hid (add_m (at_ := n) HX3.out (fun b h => by have := hb13.size; rcases h with (h | h) | h; (have := HM.out b h; omega); omega; omega) hmw3.mo HFW.out (by omega))
                have c10 := h103.rd.1
                have c16 := b16.rd.1
                clear hb3 hb13 hW3 ht16 hmw3 h103 b16 hmw hb hsw2 hl16
                go_wp2_with fail
                refine HADD.out.mono ?_
                rintro e w4 ⟨rfl, hN, hk⟩
                have hk' : Kept (fun b => ¬ ((M b ∨ (t10 ≤ b ∧ b < W1.heap.size)) ∨ (W1.heap.size ≤ b ∧ b < W3.heap.size))) W3 w4 := hk
                have HX4 := Lib.hid hN
                have HK4 := Lib.hid hk'
                have HR4 := Lib.hid ((HR0.out.below HB13.out).kept hk' (fun b _ a f => f (.inl (.inl (HA.out b a)))) (fun b _ s f => f (.inl (.inl s))))
                have HMO4 := Lib.hid ((HMO.out.below HB13.out).kept hk' (fun b _ a f => f (.inl (.inl (HA.out b a)))))
                have H104 := Lib.hid (H103.out.kept hk' (fun f => f (.inl (.inr ⟨Nat.le_refl _, hl10⟩))))
                have H164 := Lib.hid (H163.out.kept hk' (fun f => f (.inr ⟨HSW2.out, HL16.out⟩)))
                have HWK4 := Lib.hid ((Wr.of HMW3.out.k).kept hk' (fun b e f => f (.inr (HMW3.out.k.lt b e))))
                have HWS4 := Lib.hid ((Wr.of HMW3.out.s).kept hk' (fun b e f => f (.inr (HMW3.out.s.lt b e))))
                have HFB : Hid (∀ b, Fs (.slice q3 mm.ks.length d3) (.slice q4 mm.ss.length d4) b → W1.heap.size ≤ b ∧ b < W3.heap.size) := Lib.hid fun b h => by
                  rcases h with h | h
                  · exact HMW3.out.k.lt b h
                  · exact HMW3.out.s.lt b h
                obtain ⟨ev, hev⟩ : ∃ ev, addE xs mm n = ev := ⟨_, rfl⟩
                have HRA := Lib.hid (radd_any (r := ⟨.slice q1 mm.ks.length d1, .slice q2 mm.ss.length d2, mm⟩) (at_ := n) HR4.out HMO4.out (fun b hb => by have := HBL.out.size; have := HB13.out.size; have := hk'.size; omega) (by omega))
                have HEV := Lib.hid hev
                rw [hev]
                clear hN hk hk' c10 c16 hev HADD HX3 HMO4 HR4 H103 H163
                have c10 := H104.out.rd.1
                go_wp2_with fail
                refine HRA.out.mono ?_
                rintro e w5 ⟨v5, rfl, hR5, hb5⟩
                rw [HEV.out]
                obtain ⟨pe, de, e5⟩ := hR5.osl.slice
                subst e5
                have HR5 := Lib.hid hR5
                have HB5 := Lib.hid hb5
                have HSP := Lib.hid (spoil_any (w := w5) (m := mm) (HWK4.out.shapes (Shapes.below hb5)) (HWS4.out.shapes (Shapes.below hb5)) HFW.out (fun b f => by have := HFB.out b f; have := HK4.out.size; have := hb5.size; omega))
                have h165 := H164.out.below hb5
                clear hR5 hb5 c10
                have c16 := h165.rd.1
                clear h165
                go_wp2_with fail
                refine HSP.out.mono ?_
                rintro e w6 ⟨rfl, hk6, -⟩
                have HPS := Lib.hid (ps_add (n := i + 1) HM.out HA.out (Nat.le_of_lt hl10) HBL.out HB13.out HK4.out HX4.out HR5.out HB5.out hk6 HFB.out ((HPG.out.add HFW.out).mono (Nat.le_succ i)))
                clear hk6 c16
                go_wp2_with fail
                go_meet
                case rel => exact ⟨_, HPS.out⟩
          case rest =>
            obtain ⟨ys, hP⟩ := hcut
            have HP := Lib.hid hP
            obtain ⟨⟨M', hX, hM', hA', hR⟩, hpg, hbl⟩ := hP
            obtain ⟨pm, dm, e0⟩ := hR.osl.slice
            subst e0
            have hyl := hpg.len
            have HPY := Lib.hid hpg
            have HXY := Lib.hid hX
            have HRY := Lib.hid hR
            have HAL := Lib.hid (all_m hX hpg.few (by omega))
            clear hX hM' hA' hR hpg hbl c10
            go_wp2_with fail
            refine HAL.out.mono ?_
            rintro e w8 ⟨v8, rs, rfl, hrs, hRw, hb⟩
            obtain ⟨pa, da, rfl⟩ := owns_slice hRw.own
            have hrl : rs.length ≤ 6 := by
              rw [← List.length_map (f := Ow.pl), hrs]
              exact hyl
            have HB8 := Lib.hid hb
            have HLN := Lib.hid (len_m (HXY.out.below hb))
            have HSA := Lib.hid (rsameO_any (xs := ys) (by rw [← hrs]; exact hRw.osl) ((HRY.out.below hb).osl) HPY.out.few (by omega))
            have HSL := Lib.hid (Sl.owned encO_len hRw.own)
            have HMW := Lib.hid hRw.mw
            have HNE := Lib.hid hRw.ne
            have HRS := Lib.hid hrs
            clear hrs hRw hb HAL
            go_wp2_with fail
            refine HLN.out.mono ?_
            rintro e w9 ⟨rfl, rfl⟩
            go_wp2_with fail
            refine HSA.out.mono ?_
            rintro e w9 ⟨rfl, hb⟩
            have HB9 := Lib.hid hb
            have HSL9 := Lib.hid (HSL.out.below hb)
            have HWR9 : Hid (∀ r ∈ rs, Wr w9 r.m.kv r.m.m.ks.length ∧ Wr w9 r.m.sv r.m.m.ss.length) := Lib.hid fun r hr => ⟨(Wr.of (HMW.out r hr).k).shapes (Shapes.below hb), (Wr.of (HMW.out r hr).s).shapes (Shapes.below hb)⟩
            have HFF : Hid (∀ b, Fss (rs.map Ow.m) b → (wc.heap.size ≤ b ∧ b < w8.heap.size) ∧ (Value.slice pa rs.length da).ownBlock ≠ some b) := Lib.hid fun b hf => by
              obtain ⟨r', hr', h⟩ := hf
              obtain ⟨r, hr, rfl⟩ := List.mem_map.1 hr'
              rcases h with h | h
              · exact ⟨(HMW.out r hr).k.lt b h, fun e => (HNE.out r hr b e).1 h⟩
              · exact ⟨(HMW.out r hr).s.lt b h, fun e => (HNE.out r hr b e).2 h⟩
            have HFL : Hid (∀ r ∈ rs, Few r.m.m) := Lib.hid fun r hr => HPY.out.few r.pl (by rw [← HRS.out]; exact List.mem_map_of_mem hr)
            have HZ9 := Lib.hid hb.size
            clear hb HSA HLN HSL
            go_wp2_with fail
            go_loopw [21] (fun iv_ wx => ∃ k : Nat, iv_ = .int .i64 k ∧ k ≤ rs.length ∧ Kept (Fss (rs.map Ow.m)) w9 wx ∧ Shapes w9 wx) (fun iv_ _ => rs.length - (intOf iv_).toNat)
            · exact ⟨0, rfl, by omega, Kept.refl _ _, Shapes.refl _⟩
            obtain ⟨k, rfl, hk, hK, hS⟩ := hrel
            have HK := Lib.hid hK
            have HS := Lib.hid hS
            clear hK hS
            by_cases hlk : k < rs.length
            · obtain ⟨⟨⟨kv, sv, mm⟩, tr, nx⟩, hr⟩ : ∃ r, rs[k]? = some r := ⟨_, List.getElem?_eq_getElem hlk⟩
              have hmem := List.mem_of_getElem? hr
              have hw := HMW.out _ hmem
              obtain ⟨qa, da2, e3⟩ := owns_slice hw.k
              obtain ⟨qb, db2, e4⟩ := owns_slice hw.s
              simp only at e3 e4
              subst e3 e4
              obtain ⟨a2, rfl, -, -, hrow⟩ := (HSL9.out.kept HK.out (fun b _ s f => (HFF.out b f).2 s)).at hr
              obtain ⟨y0, y1, y2, y3, y4, -, -⟩ := Co.of hrow hr
              simp only at y0 y1 y2 y3 y4
              have hkk : (k : Int) < (rs.length : Int) := by omega
              have hmm : Fss (rs.map Ow.m) = fun b => ∃ r ∈ rs.map Ow.m, Fs r.kv r.sv b := rfl
              have HSP := Lib.hid (spoil_any (w := wr) (m := mm) ((HWR9.out _ hmem).1.shapes HS.out) ((HWR9.out _ hmem).2.shapes HS.out) (HFL.out _ hmem) (fun b f => by have := (HFF.out b ⟨_, List.mem_map_of_mem hmem, f⟩).1.2; have := HZ9.out; have := HK.out.size; omega))
              have HMEM := Lib.hid hmem
              clear hr hmem hw hrow hmm
              go_wp2_with fail
              refine HSP.out.mono ?_
              rintro e w5 ⟨rfl, hk5, hs5⟩
              have HK5 := Lib.hid (HK.out.trans hk5 (fun _ _ x => x) (fun b _ f => ⟨_, List.mem_map_of_mem HMEM.out, f⟩))
              have HS5 := Lib.hid (HS.out.trans hs5)
              clear hk5 hs5 y0 y1 y2 y3 y4 HSP
              go_wp2_with fail
              exact ⟨⟨k + 1, by simp, by omega, HK5.out, HS5.out⟩, by simp [intOf]; omega⟩
            · obtain rfl : k = rs.length := by omega
              have HPS := Lib.hid (ps_all HP.out (below_then HB8.out HB9.out) HK.out (fun b f => by have := (HFF.out b f).1; have := HZ9.out; omega))
              go_wp2_with fail
              exact ⟨⟨i + 1, ys, by simp, by omega, HPS.out⟩, by simp [intOf]; omega⟩
        · obtain rfl : i = l.length := by omega
          have HBF := Lib.hid hP.below
          clear hP
          go_wp2_with fail
          refine (awake_any wr).mono ?_
          rintro e w9 ⟨rfl, hb⟩
          have HB9 := Lib.hid (HBF.out.trans (hb.mono HBF.out.size))
          clear hb
          go_wp2_with fail
          go_ret
          exact ⟨rfl, HB9.out⟩
      · have HRF2 := Lib.hid (HRF1.out.below hb)
        have HB2 := Lib.hid (HB1.out.trans (hb.mono HB1.out.size))
        have HG := Lib.hid hg
        clear hb hg
        go_wp2_with fail
        refine (rof_any HRF2.out.osl (by rw [List.length_map]; omega)).mono ?_
        rintro e w3 ⟨c, rfl, hc, hb⟩
        obtain rfl : c = 2 := by
          rcases hc with hc | hc
          · exact absurd hc.2 HG.out
          · exact hc.1
        have HB3 := Lib.hid (HB2.out.trans (hb.mono HB2.out.size))
        clear hc hb HRF2 HG HB2
        go_wp2_with fail
        refine (new_m w3).mono ?_
        rintro e w4 ⟨rfl, hX, hb⟩
        obtain ⟨p, hp⟩ : ∃ p, w3.heap.size = p := ⟨_, rfl⟩
        have HPS : Hid (PS w p 0 [] (.slice none 0 0) w4) := Lib.hid (by
          rw [hp] at hX
          have hs3 := HB3.out.size
          have hs4 := hb.size
          exact ⟨⟨fun b => b < w.heap.size, hX.turn (fun b _ h => .inl (by omega)), fun b h => by omega, fun b h => h, Rf.nil _ _ _⟩, PG.nil, HB3.out.trans (hb.mono HB3.out.size)⟩)
        rw [hp]
        clear hX hb hp HB3
        go_wp2_with fail
        go_loopw [8, 9, 10, 11, 12, 13, 14, 15, 16, 17, 18, 19, 20, 21] (fun m_ iv_ _ _ _ _ _ _ _ _ _ _ _ _ wr => ∃ (i : Nat) (xs : List Ox), iv_ = .int .i64 i ∧ i ≤ l.length ∧ PS w p i xs m_ wr) (fun _ iv_ _ _ _ _ _ _ _ _ _ _ _ _ _ => l.length - (intOf iv_).toNat)
        · exact ⟨0, _, rfl, by omega, HPS.out⟩
        clear HPS
        obtain ⟨i, xs, rfl, hi, hP⟩ := hrel
        by_cases hil : i < l.length
        · obtain ⟨⟨kd, ⟨kv, sv, m⟩, n⟩, hx⟩ : ∃ x, l[i]? = some x := ⟨_, List.getElem?_eq_getElem hil⟩
          obtain ⟨⟨M, hX, hM, hA, hR⟩, hpg, hbl⟩ := hP
          obtain ⟨p0, c0, e0⟩ := hR.osl.slice
          subst e0
          have hm := (HM2.out _ (List.mem_of_getElem? hx)).2.below hbl
          have hf := HG2.out _ (List.mem_of_getElem? hx)
          have hkd := (HM2.out _ (List.mem_of_getElem? hx)).1
          simp only at hm hf hkd
          obtain ⟨q1, d1, e3, -, -⟩ := hm.k.len
          obtain ⟨q2, d2, e4, -, -⟩ := hm.s.len
          simp only at e3 e4
          subst e3 e4
          obtain ⟨ad, rfl, -, -, hrow⟩ := (H2.out.below hbl).at hx
          obtain ⟨x0, x1, x2, x3, x4, x5, x6⟩ := cells_T hrow hx
          simp only at x0 x1 x2 x3 x4 x5 x6
          have hii : (i : Int) < (l.length : Int) := by omega
          have hb1 : Below wr.heap.size wr (wr.alloc (.cells #[.int .u8 kd, .int .u32 m.rule, .string m.route, .int .i64 m.at_, .slice q1 m.ks.length d1, .slice q2 m.ss.length d2, .int .i64 n] 46)) := (Below.refl _ wr).alloc (Nat.le_refl _) _
          have b10 := Box.new wr #[.int .u8 kd, .int .u32 m.rule, .string m.route, .int .i64 m.at_, .slice q1 m.ks.length d1, .slice q2 m.ss.length d2, .int .i64 n] 46
          have HX0 := Lib.hid (hX.grow hb1)
          have HR0 := Lib.hid (hR.below hb1)
          have HMO := Lib.hid (hm.below hb1)
          have HBL := Lib.hid (hbl.trans (hb1.mono hbl.size))
          have HA := Lib.hid hA
          have HPG := Lib.hid hpg
          have HFW : Hid (Few m) := Lib.hid ⟨by omega, by omega⟩
          have HSW := Lib.hid hbl.size
          have hxl := hpg.len
          clear hx hX hR hpg hbl hm hf hA hrow hb1
          go_upto_block 4 with fail
          obtain ⟨W1, hW1⟩ : ∃ W1, (wr.alloc (.cells #[.int .u8 kd, .int .u32 m.rule, .string m.route, .int .i64 m.at_, .slice q1 m.ks.length d1, .slice q2 m.ss.length d2, .int .i64 n] 46)) = W1 := ⟨_, rfl⟩
          rw [hW1] at b10 HX0 HR0 HMO HBL ⊢
          have hl10 := b10.lt
          obtain ⟨t10, ht10⟩ : ∃ t10, wr.heap.size = t10 := ⟨_, rfl⟩
          rw [ht10] at b10 hl10 HX0 HSW hM ⊢
          have HM := Lib.hid hM
          have H10 := Lib.hid b10
          clear hW1 ht10 b10 x0 x1 x2 x3 x4 x5 x6 hM
          have c10 := H10.out.rd.1
          obtain ⟨kq, hkq⟩ : ∃ kq, kd.tmod 4 = kq := ⟨_, rfl⟩
          go_cut [8, 11, 12, 13, 14, 15, 16, 17, 18, 19] from 73 to 187 (fun m_ _ _ _ _ _ _ _ _ _ wc => ∃ ys : List Ox, PS w p (i + 1) ys m_ wc)
          case first =>
            by_cases g6 : kq = 2
            · have q6 : (kq == 2) = true := by simp [g6]
              clear g6
              go_wp2_with fail
              refine (pump_m (at_ := n) HX0.out (by omega) HPG.out.few (HPG.out.ok (by omega))).mono ?_
              rintro e w2 ⟨v2, os, rfl, hos, hRw, hN, hk⟩
              obtain ⟨pa, da, rfl⟩ := owns_slice hRw.own
              have hk' : Kept (fun b => ¬ (M b ∨ (t10 ≤ b ∧ b < W1.heap.size))) W1 w2 := hk
              have HK2 := Lib.hid hk'
              have HX2 := Lib.hid hN
              have HR2 := Lib.hid (HR0.out.kept hk' (fun b _ a f => f (.inl (HA.out b a))) (fun b _ s f => f (.inl s)))
              have H102 := Lib.hid (H10.out.kept hk' (fun f => f (.inr ⟨Nat.le_refl _, hl10⟩)))
              have HOS := Lib.hid hos
              have HSL := Lib.hid (Sl.owned encM_len hRw.own)
              have HMW := Lib.hid hRw.mw
              have HNE := Lib.hid hRw.ne
              have HMSL := Lib.hid hRw.msl
              have hol : os.length ≤ 6 := by
                rw [← List.length_map (f := Mr.m), hos]
                have := sendO_len xs n
                omega
              clear hos hRw hN hk hk' c10
              have c10 := H102.out.rd.1
              go_wp2_with fail
              refine (rpump_any (t := n) HR2.out (fun b hb => by have := HBL.out.size; have := HK2.out.size; omega) (by omega) (HPG.out.ok (by omega))).mono ?_
              rintro e w3 ⟨ov, lv, os', ls, rfl, hU⟩
              obtain ⟨pb, db, e1⟩ := owns_slice hU.ro.own
              obtain ⟨pc, dc, e2⟩ := owns_slice hU.rl.own
              subst e1 e2
              have ho := hU.eo
              have hl := hU.el
              rw [List.take_length] at ho hl
              have HRN : Hid (Rf (fun b => b < w.heap.size) (fun b => w2.heap.size ≤ b) w3 (.slice pc ls.length dc) (sendL xs n)) := Lib.hid (by rw [← hl]; exact hU.rl.rf)
              have HB3 := Lib.hid hU.below
              have HSM := Lib.hid (sames_any (xs := sendO xs n) (by rw [← HOS.out]; exact HMSL.out.below hU.below) (by rw [← ho]; exact hU.ro.msl) (sendO_few HPG.out.few) (by have := sendO_len xs n; omega))
              clear ho hl hU c10 HMSL
              go_wp2_with fail
              refine HSM.out.mono ?_
              rintro e w4 ⟨rfl, hb⟩
              have HB4 := Lib.hid hb
              have HSL4 := Lib.hid ((HSL.out.below HB3.out).below hb)
              have HWR4 : Hid (∀ r ∈ os, Wr w4 r.kv r.m.ks.length ∧ Wr w4 r.sv r.m.ss.length) := Lib.hid fun r hr => ⟨((Wr.of (HMW.out r hr).k).shapes (Shapes.below HB3.out)).shapes (Shapes.below hb), ((Wr.of (HMW.out r hr).s).shapes (Shapes.below HB3.out)).shapes (Shapes.below hb)⟩
              have HFF : Hid (∀ b, Fss os b → (W1.heap.size ≤ b ∧ b < w2.heap.size) ∧ (Value.slice pa os.length da).ownBlock ≠ some b) := Lib.hid fun b hf => by
                obtain ⟨r, hr, h⟩ := hf
                rcases h with h | h
                · exact ⟨(HMW.out r hr).k.lt b h, fun e => (HNE.out r hr b e).1 h⟩
                · exact ⟨(HMW.out r hr).s.lt b h, fun e => (HNE.out r hr b e).2 h⟩
              have HFL : Hid (∀ r ∈ os, Few r.m) := Lib.hid fun r hr => sendO_few HPG.out.few _ (by rw [← HOS.out]; exact List.mem_map_of_mem hr)
              have hz4 : w2.heap.size ≤ w4.heap.size := Nat.le_trans HB3.out.size hb.size
              have HZ4 := Lib.hid hz4
              clear hb hz4 HSM HSL
              go_wp2_with fail
              go_loopw [14] (fun iv_ wx => ∃ k : Nat, iv_ = .int .i64 k ∧ k ≤ os.length ∧ Kept (Fss os) w4 wx ∧ Shapes w4 wx) (fun iv_ _ => os.length - (intOf iv_).toNat)
              · exact ⟨0, rfl, by omega, Kept.refl _ _, Shapes.refl _⟩
              obtain ⟨k, rfl, hk, hK, hS⟩ := hrel
              have HK := Lib.hid hK
              have HS := Lib.hid hS
              clear hK hS
              by_cases hlk : k < os.length
              · obtain ⟨⟨kv, sv, mm⟩, hr⟩ : ∃ r, os[k]? = some r := ⟨_, List.getElem?_eq_getElem hlk⟩
                have hmem := List.mem_of_getElem? hr
                have hw := HMW.out _ hmem
                obtain ⟨qa, da2, e3⟩ := owns_slice hw.k
                obtain ⟨qb, db2, e4⟩ := owns_slice hw.s
                simp only at e3 e4
                subst e3 e4
                obtain ⟨a2, rfl, -, -, hrow⟩ := (HSL4.out.kept HK.out (fun b _ s f => (HFF.out b f).2 s)).at hr
                obtain ⟨y0, y1, y2, y3, y4⟩ := cells_M hrow hr
                simp only at y0 y1 y2 y3 y4
                have hkk : (k : Int) < (os.length : Int) := by omega
                have HSP := Lib.hid (spoil_any (w := wr) (m := mm) ((HWR4.out _ hmem).1.shapes HS.out) ((HWR4.out _ hmem).2.shapes HS.out) (HFL.out _ hmem) (fun b f => by have := (HFF.out b ⟨_, hmem, f⟩).1.2; have := HZ4.out; have := HK.out.size; omega))
                have HMEM := Lib.hid hmem
                clear hr hmem hw hrow
                go_wp2_with fail
                refine HSP.out.mono ?_
                rintro e w5 ⟨rfl, hk5, hs5⟩
                have HK5 := Lib.hid (HK.out.trans hk5 (fun _ _ x => x) (fun b _ f => ⟨_, HMEM.out, f⟩))
                have HS5 := Lib.hid (HS.out.trans hs5)
                clear hk5 hs5 y0 y1 y2 y3 y4 HSP
                go_wp2_with fail
                exact ⟨⟨k + 1, by simp, by omega, HK5.out, HS5.out⟩, by simp [intOf]; omega⟩
              · obtain rfl : k = os.length := by omega
                have HPS := Lib.hid (ps_pump (n := i + 1) HM.out HA.out (Nat.le_of_lt hl10) HBL.out HK2.out HX2.out HRN.out HB3.out HB4.out HK.out (fun b f => (HFF.out b f).1) HPG.out.send)
                go_wp2_with fail
                go_meet
                case rel => exact ⟨_, HPS.out⟩
            · have q6 : (kq == 2) = false := by simp [g6]
              clear g6
              by_cases g7 : kq = 3
              · have q7 : (kq == 3) = true := by simp [g7]
                clear g7
                go_wp2_with fail
                refine (rackf_any (r := m.rule) (i := m.at_) HR0.out (fun b hb => by have := HBL.out.size; omega) (by omega)).mono ?_
                rintro e w2 ⟨v2, rfl, hR2, hb⟩
                obtain ⟨pa, da, e1⟩ := hR2.osl.slice
                subst e1
                have HR2 : Hid (Rf (fun b => b < w.heap.size) (fun b => W1.heap.size ≤ b) w2 (.slice pa (rackL xs m.rule m.at_).length da) (ackL xs m.rule m.at_)) := Lib.hid (by have h := hR2; rw [rack_eq HPG.out.uq] at h ⊢; exact h)
                have HB2 := Lib.hid hb
                have HX2 := Lib.hid (HX0.out.grow hb)
                have H102 := Lib.hid (H10.out.below hb)
                have HAK := Lib.hid (ack_m (r := m.rule) (i := m.at_) HX2.out (by omega))
                have HAL : Hid (hasR xs m.rule m.at_ = decide ((rackL xs m.rule m.at_).length < xs.length)) := Lib.hid (by rw [rack_eq HPG.out.uq]; exact ack_len)
                clear hR2 hb c10
                have c10 := H102.out.rd.1
                cases hhas : hasR xs m.rule m.at_ with
                | true =>
                  have hlt : ((rackL xs m.rule m.at_).length : Int) < (xs.length : Int) := by
                    have h := HAL.out
                    rw [hhas] at h
                    have := of_decide_eq_true h.symm
                    omega
                  have HH := Lib.hid hhas
                  clear hhas
                  go_wp2_with fail
                  refine HAK.out.mono ?_
                  rintro e w3 ⟨rfl, hN, hk⟩
                  rw [HH.out]
                  have HPS := Lib.hid (ps_ack (n := i + 1) HM.out HA.out (Nat.le_of_lt hl10) HBL.out HR2.out HB2.out hk hN (HPG.out.ack.mono (Nat.le_succ i)))
                  clear hN hk
                  go_wp2_with fail
                  go_meet
                  case rel => exact ⟨_, HPS.out⟩
                | false =>
                  have hlt : ¬ ((rackL xs m.rule m.at_).length : Int) < (xs.length : Int) := by
                    have h := HAL.out
                    rw [hhas] at h
                    have := of_decide_eq_false h.symm
                    omega
                  have HH := Lib.hid hhas
                  clear hhas
                  go_wp2_with fail
                  refine HAK.out.mono ?_
                  rintro e w3 ⟨rfl, hN, hk⟩
                  rw [HH.out]
                  have HPS := Lib.hid (ps_ack (n := i + 1) HM.out HA.out (Nat.le_of_lt hl10) HBL.out HR2.out HB2.out hk hN (HPG.out.ack.mono (Nat.le_succ i)))
                  clear hN hk
                  go_wp2_with fail
                  go_meet
                  case rel => exact ⟨_, HPS.out⟩
              · have q7 : (kq == 3) = false := by simp [g7]
                clear g7
                go_wp2_with fail
                refine (ltwin_any (x := ⟨.slice q1 m.ks.length d1, .slice q2 m.ss.length d2, m⟩) HMO.out HFW.out).mono ?_
                rintro e w2 ⟨⟨kv, sv, mm⟩, rfl, hrm, hmw, hb⟩
                obtain rfl : mm = m := hrm
                obtain ⟨q3, d3, e3⟩ := owns_slice hmw.k
                obtain ⟨q4, d4, e4⟩ := owns_slice hmw.s
                simp only at e3 e4
                subst e3 e4
                have hb3 : Below w2.heap.size w2 (w2.alloc (.cells (mc ⟨.slice q3 mm.ks.length d3, .slice q4 mm.ss.length d4, mm⟩) 31)) := (Below.refl _ w2).alloc (Nat.le_refl _) _
                have b16 := Box.new w2 (mc ⟨.slice q3 mm.ks.length d3, .slice q4 mm.ss.length d4, mm⟩) 31
                have hb13 := below_then hb hb3
                have h103 := H10.out.below hb13
                have hmw3 := hmw.below hb3
                have hsw2 := hb.size
                clear c10
                go_upto_region 21 with fail
                obtain ⟨W3, hW3⟩ : ∃ W3, (w2.alloc (.cells (mc ⟨.slice q3 mm.ks.length d3, .slice q4 mm.ss.length d4, mm⟩) 31)) = W3 := ⟨_, rfl⟩
                rw [hW3] at b16 hb13 h103 hmw3 ⊢
                have hl16 := b16.lt
                obtain ⟨t16, ht16⟩ : ∃ t16, w2.heap.size = t16 := ⟨_, rfl⟩
                rw [ht16] at b16 hl16 hsw2 ⊢
                have HB13 := Lib.hid hb13
                have HX3 := Lib.hid (HX0.out.grow hb13)
                have HMW3 := Lib.hid hmw3
                have H103 := Lib.hid h103
                have H163 := Lib.hid b16
                have HL16 := Lib.hid hl16
                have HSW2 := Lib.hid hsw2
                have HADD := Lib.hid (add_m (at_ := n) HX3.out (fun b h => by have := hb13.size; rcases h with (h | h) | h; (have := HM.out b h; omega); omega; omega) hmw3.mo HFW.out (by omega))
                have c10 := h103.rd.1
                have c16 := b16.rd.1
                clear hb3 hb13 hW3 ht16 hmw3 h103 b16 hmw hb hsw2 hl16
                go_wp2_with fail
                refine HADD.out.mono ?_
                rintro e w4 ⟨rfl, hN, hk⟩
                have hk' : Kept (fun b => ¬ ((M b ∨ (t10 ≤ b ∧ b < W1.heap.size)) ∨ (W1.heap.size ≤ b ∧ b < W3.heap.size))) W3 w4 := hk
                have HX4 := Lib.hid hN
                have HK4 := Lib.hid hk'
                have HR4 := Lib.hid ((HR0.out.below HB13.out).kept hk' (fun b _ a f => f (.inl (.inl (HA.out b a)))) (fun b _ s f => f (.inl (.inl s))))
                have HMO4 := Lib.hid ((HMO.out.below HB13.out).kept hk' (fun b _ a f => f (.inl (.inl (HA.out b a)))))
                have H104 := Lib.hid (H103.out.kept hk' (fun f => f (.inl (.inr ⟨Nat.le_refl _, hl10⟩))))
                have H164 := Lib.hid (H163.out.kept hk' (fun f => f (.inr ⟨HSW2.out, HL16.out⟩)))
                have HWK4 := Lib.hid ((Wr.of HMW3.out.k).kept hk' (fun b e f => f (.inr (HMW3.out.k.lt b e))))
                have HWS4 := Lib.hid ((Wr.of HMW3.out.s).kept hk' (fun b e f => f (.inr (HMW3.out.s.lt b e))))
                have HFB : Hid (∀ b, Fs (.slice q3 mm.ks.length d3) (.slice q4 mm.ss.length d4) b → W1.heap.size ≤ b ∧ b < W3.heap.size) := Lib.hid fun b h => by
                  rcases h with h | h
                  · exact HMW3.out.k.lt b h
                  · exact HMW3.out.s.lt b h
                obtain ⟨ev, hev⟩ : ∃ ev, addE xs mm n = ev := ⟨_, rfl⟩
                have HRA := Lib.hid (radd_any (r := ⟨.slice q1 mm.ks.length d1, .slice q2 mm.ss.length d2, mm⟩) (at_ := n) HR4.out HMO4.out (fun b hb => by have := HBL.out.size; have := HB13.out.size; have := hk'.size; omega) (by omega))
                have HEV := Lib.hid hev
                rw [hev]
                clear hN hk hk' c10 c16 hev HADD HX3 HMO4 HR4 H103 H163
                have c10 := H104.out.rd.1
                go_wp2_with fail
                refine HRA.out.mono ?_
                rintro e w5 ⟨v5, rfl, hR5, hb5⟩
                rw [HEV.out]
                obtain ⟨pe, de, e5⟩ := hR5.osl.slice
                subst e5
                have HR5 := Lib.hid hR5
                have HB5 := Lib.hid hb5
                have HSP := Lib.hid (spoil_any (w := w5) (m := mm) (HWK4.out.shapes (Shapes.below hb5)) (HWS4.out.shapes (Shapes.below hb5)) HFW.out (fun b f => by have := HFB.out b f; have := HK4.out.size; have := hb5.size; omega))
                have h165 := H164.out.below hb5
                clear hR5 hb5 c10
                have c16 := h165.rd.1
                clear h165
                go_wp2_with fail
                refine HSP.out.mono ?_
                rintro e w6 ⟨rfl, hk6, -⟩
                have HPS := Lib.hid (ps_add (n := i + 1) HM.out HA.out (Nat.le_of_lt hl10) HBL.out HB13.out HK4.out HX4.out HR5.out HB5.out hk6 HFB.out ((HPG.out.add HFW.out).mono (Nat.le_succ i)))
                clear hk6 c16
                go_wp2_with fail
                go_meet
                case rel => exact ⟨_, HPS.out⟩
          case rest =>
            obtain ⟨ys, hP⟩ := hcut
            have HP := Lib.hid hP
            obtain ⟨⟨M', hX, hM', hA', hR⟩, hpg, hbl⟩ := hP
            obtain ⟨pm, dm, e0⟩ := hR.osl.slice
            subst e0
            have hyl := hpg.len
            have HPY := Lib.hid hpg
            have HXY := Lib.hid hX
            have HRY := Lib.hid hR
            have HAL := Lib.hid (all_m hX hpg.few (by omega))
            clear hX hM' hA' hR hpg hbl c10
            go_wp2_with fail
            refine HAL.out.mono ?_
            rintro e w8 ⟨v8, rs, rfl, hrs, hRw, hb⟩
            obtain ⟨pa, da, rfl⟩ := owns_slice hRw.own
            have hrl : rs.length ≤ 6 := by
              rw [← List.length_map (f := Ow.pl), hrs]
              exact hyl
            have HB8 := Lib.hid hb
            have HLN := Lib.hid (len_m (HXY.out.below hb))
            have HSA := Lib.hid (rsameO_any (xs := ys) (by rw [← hrs]; exact hRw.osl) ((HRY.out.below hb).osl) HPY.out.few (by omega))
            have HSL := Lib.hid (Sl.owned encO_len hRw.own)
            have HMW := Lib.hid hRw.mw
            have HNE := Lib.hid hRw.ne
            have HRS := Lib.hid hrs
            clear hrs hRw hb HAL
            go_wp2_with fail
            refine HLN.out.mono ?_
            rintro e w9 ⟨rfl, rfl⟩
            go_wp2_with fail
            refine HSA.out.mono ?_
            rintro e w9 ⟨rfl, hb⟩
            have HB9 := Lib.hid hb
            have HSL9 := Lib.hid (HSL.out.below hb)
            have HWR9 : Hid (∀ r ∈ rs, Wr w9 r.m.kv r.m.m.ks.length ∧ Wr w9 r.m.sv r.m.m.ss.length) := Lib.hid fun r hr => ⟨(Wr.of (HMW.out r hr).k).shapes (Shapes.below hb), (Wr.of (HMW.out r hr).s).shapes (Shapes.below hb)⟩
            have HFF : Hid (∀ b, Fss (rs.map Ow.m) b → (wc.heap.size ≤ b ∧ b < w8.heap.size) ∧ (Value.slice pa rs.length da).ownBlock ≠ some b) := Lib.hid fun b hf => by
              obtain ⟨r', hr', h⟩ := hf
              obtain ⟨r, hr, rfl⟩ := List.mem_map.1 hr'
              rcases h with h | h
              · exact ⟨(HMW.out r hr).k.lt b h, fun e => (HNE.out r hr b e).1 h⟩
              · exact ⟨(HMW.out r hr).s.lt b h, fun e => (HNE.out r hr b e).2 h⟩
            have HFL : Hid (∀ r ∈ rs, Few r.m.m) := Lib.hid fun r hr => HPY.out.few r.pl (by rw [← HRS.out]; exact List.mem_map_of_mem hr)
            have HZ9 := Lib.hid hb.size
            clear hb HSA HLN HSL
            go_wp2_with fail
            go_loopw [21] (fun iv_ wx => ∃ k : Nat, iv_ = .int .i64 k ∧ k ≤ rs.length ∧ Kept (Fss (rs.map Ow.m)) w9 wx ∧ Shapes w9 wx) (fun iv_ _ => rs.length - (intOf iv_).toNat)
            · exact ⟨0, rfl, by omega, Kept.refl _ _, Shapes.refl _⟩
            obtain ⟨k, rfl, hk, hK, hS⟩ := hrel
            have HK := Lib.hid hK
            have HS := Lib.hid hS
            clear hK hS
            by_cases hlk : k < rs.length
            · obtain ⟨⟨⟨kv, sv, mm⟩, tr, nx⟩, hr⟩ : ∃ r, rs[k]? = some r := ⟨_, List.getElem?_eq_getElem hlk⟩
              have hmem := List.mem_of_getElem? hr
              have hw := HMW.out _ hmem
              obtain ⟨qa, da2, e3⟩ := owns_slice hw.k
              obtain ⟨qb, db2, e4⟩ := owns_slice hw.s
              simp only at e3 e4
              subst e3 e4
              obtain ⟨a2, rfl, -, -, hrow⟩ := (HSL9.out.kept HK.out (fun b _ s f => (HFF.out b f).2 s)).at hr
              obtain ⟨y0, y1, y2, y3, y4, -, -⟩ := Co.of hrow hr
              simp only at y0 y1 y2 y3 y4
              have hkk : (k : Int) < (rs.length : Int) := by omega
              have hmm : Fss (rs.map Ow.m) = fun b => ∃ r ∈ rs.map Ow.m, Fs r.kv r.sv b := rfl
              have HSP := Lib.hid (spoil_any (w := wr) (m := mm) ((HWR9.out _ hmem).1.shapes HS.out) ((HWR9.out _ hmem).2.shapes HS.out) (HFL.out _ hmem) (fun b f => by have := (HFF.out b ⟨_, List.mem_map_of_mem hmem, f⟩).1.2; have := HZ9.out; have := HK.out.size; omega))
              have HMEM := Lib.hid hmem
              clear hr hmem hw hrow hmm
              go_wp2_with fail
              refine HSP.out.mono ?_
              rintro e w5 ⟨rfl, hk5, hs5⟩
              have HK5 := Lib.hid (HK.out.trans hk5 (fun _ _ x => x) (fun b _ f => ⟨_, List.mem_map_of_mem HMEM.out, f⟩))
              have HS5 := Lib.hid (HS.out.trans hs5)
              clear hk5 hs5 y0 y1 y2 y3 y4 HSP
              go_wp2_with fail
              exact ⟨⟨k + 1, by simp, by omega, HK5.out, HS5.out⟩, by simp [intOf]; omega⟩
            · obtain rfl : k = rs.length := by omega
              have HPS := Lib.hid (ps_all HP.out (below_then HB8.out HB9.out) HK.out (fun b f => by have := (HFF.out b f).1; have := HZ9.out; omega))
              go_wp2_with fail
              exact ⟨⟨i + 1, ys, by simp, by omega, HPS.out⟩, by simp [intOf]; omega⟩
        · obtain rfl : i = l.length := by omega
          have HBF := Lib.hid hP.below
          clear hP
          go_wp2_with fail
          refine (awake_any wr).mono ?_
          rintro e w9 ⟨rfl, hb⟩
          have HB9 := Lib.hid (HBF.out.trans (hb.mono HBF.out.size))
          clear hb
          go_wp2_with fail
          go_ret
          exact ⟨rfl, HB9.out⟩
end Go.Proofs.Ytfaafndaelmbfaa
