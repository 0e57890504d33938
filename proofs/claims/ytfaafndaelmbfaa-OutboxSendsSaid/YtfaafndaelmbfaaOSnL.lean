/- OutboxSends' walk -/
import Derived.Test.YtfaafndaelmbfaaOMine
namespace Go.Proofs.Ytfaafndaelmbfaa
open Go.RowKit
attribute [local go_sem] Oper.semAt_some

set_option maxRecDepth 100000 in
set_option maxHeartbeats 40000000 in
theorem outboxSends_any {r : Mr} {at_ : Int} {v2 : Value} {l : List (Int × Mr × Int)} {minutes ack : Int} {w : World} (h : Mo (fun _ => True) w r) (hz : r.m.ks.length * 16 ≤ reachBytes ∧ r.m.ss.length * 8 ≤ reachBytes) (_ : (Lit.int .i64 at_).wf = true) (hl : Sl (fun _ => True) w v2 7 encT l) (hlm : ∀ x ∈ l, (Lit.int .u8 x.1).wf = true ∧ Mo (fun _ => True) w x.2.1 ∧ (Lit.int .i64 x.2.2).wf = true) (_ : (Lit.int .i64 minutes).wf = true) (_ : (Lit.int .i64 ack).wf = true) :
    Calls Try.prog 5 #[mv r, .int .i64 at_, v2, .int .i64 minutes, .int .i64 ack] w (Tells (.bool true) w) := by
  obtain ⟨q1, d1, q2, d2, hr⟩ := h.open
  obtain ⟨m, hmm⟩ : ∃ m, m = r.m := ⟨_, rfl⟩
  rw [← hmm] at hr
  rw [← hmm] at hz
  unfold reachBytes at hz
  subst hr
  clear hmm
  obtain ⟨pl, cl, rfl, -, -⟩ := hl.len
  have hb0 : Below w.heap.size w (w.alloc (.cells (mc ⟨.slice q1 m.ks.length d1, .slice q2 m.ss.length d2, m⟩) 31)) := (Below.refl _ w).alloc (Nat.le_refl _) _
  have b3 := Box.new w (mc ⟨.slice q1 m.ks.length d1, .slice q2 m.ss.length d2, m⟩) 31
  have HM := Lib.hid (h.below hb0)
  have HL := Lib.hid (hl.below hb0)
  have HLM : Hid (∀ x ∈ l, Mo (fun _ => True) (w.alloc (.cells (mc ⟨.slice q1 m.ks.length d1, .slice q2 m.ss.length d2, m⟩) 31)) x.2.1) := Lib.hid fun x hx => (hlm x hx).2.1.below hb0
  have HKD : Hid (∀ x ∈ l, (Lit.int .u8 x.1).wf = true) := Lib.hid fun x hx => (hlm x hx).1
  have HB0 := Lib.hid hb0
  have HX := Lib.hid b3
  have hww : wrap64 ((m.ks.length : Int) + (m.ss.length : Int)) = (m.ks.length : Int) + (m.ss.length : Int) := IntWalk.wrap64_in _ ⟨by omega, by omega⟩
  clear h hl hlm hb0 b3 hz
  obtain ⟨a, ha, ha1⟩ := mod_u64 at_ 1000000 (by omega) (by omega)
  obtain ⟨mn, hmn, hmn1⟩ := mod_u64 minutes 100 (by omega) (by omega)
  have ha' : wrap64 ((IntKind.u64.wrap at_).tmod 1000000) = (a : Int) := ha
  have hmn' : wrap64 ((IntKind.u64.wrap minutes).tmod 100) = (mn : Int) := hmn
  obtain ⟨W0, hW0⟩ : ∃ W0, (w.alloc (.cells (mc ⟨.slice q1 m.ks.length d1, .slice q2 m.ss.length d2, m⟩) 31)) = W0 := ⟨_, rfl⟩
  rw [hW0] at HM HL HLM HB0 HX
  have HW0 := Lib.hid hW0
  have HGR := Lib.hid (great_any HL.out HLM.out)
  clear ha hmn hW0
  go_enter Try.func5, Try.ntmps5
  go_wp2_with fail
  rw [HW0.out]
  refine HGR.out.mono ?_
  rintro e w1 ⟨bg, rfl, hbg, hb⟩
  have HB1 := Lib.hid (HB0.out.trans (hb.mono HB0.out.size))
  have HX1 := Lib.hid (HX.out.below hb)
  have HM1 := Lib.hid (HM.out.below hb)
  have HL1 := Lib.hid (HL.out.below hb)
  have HLM1 : Hid (∀ x ∈ l, Mo (fun _ => True) w1 x.2.1) := Lib.hid fun x hx => (HLM.out x hx).below hb
  have HBG := Lib.hid hbg
  clear hb hbg HGR HW0 HB0 HX HM HL HLM
  cases bg with
  | true =>
    go_wp2_with fail
    refine (awake_any _).mono ?_
    rintro e w2 ⟨rfl, hb⟩
    have HB2 := Lib.hid (HB1.out.trans (hb.mono HB1.out.size))
    clear hb
    go_wp2_with fail
    go_ret
    exact ⟨rfl, HB2.out⟩
  | false =>
    obtain ⟨c3, z3⟩ := HX1.out.rd
    have hbx := HX1.out.lt
    by_cases hbig : (m.ks.length : Int) + (m.ss.length : Int) ≤ 100
    · have hbig' : ¬ 100 < (m.ks.length : Int) + (m.ss.length : Int) := by omega
      have HF : Hid (Few m) := Lib.hid ⟨by omega, by omega⟩
      have hLL := (HBG.out rfl).1
      have HLF : Hid (∀ x ∈ l, Few x.2.1.m) := Lib.hid fun x hx => by
        have := (HBG.out rfl).2 x hx
        exact ⟨by omega, by omega⟩
      go_wp2_with fail
      rw [ha', hmn']
      refine (new_m w1).mono ?_
      rintro e w2 ⟨rfl, hN, hb⟩
      obtain ⟨p, hp⟩ : ∃ p, p = w1.heap.size := ⟨_, rfl⟩
      have hN0 : BxM (fun b => b < w1.heap.size) p w2 [] := by
        rw [hp]
        exact hN.turn (fun b _ m => .inl m)
      rw [← hp]
      have hx2 := HX1.out.below hb
      have hl2 := hx2.lt
      have HB2 := Lib.hid hb
      have hM2 := HM1.out.below hb
      have HAD := Lib.hid (add_m (at_ := (a : Int)) hN0 (fun b m => Nat.lt_of_lt_of_le m HB2.out.size) hM2 HF.out (by simp))
      clear hp hN hb hN0 hM2 ha' hmn' c3 z3 HBG hww
      obtain ⟨c3, z3⟩ := hx2.rd
      clear hx2
      go_wp2_with fail
      refine HAD.out.mono ?_
      rintro e w3 ⟨rfl, hN3, hk3⟩
      have e1 : addE [] m (a : Int) = 0 := by
        have : minB (a : Int) = true := by unfold minB; simp; omega
        unfold addE hasM
        simp [this]
      have e2 : addL [] m (a : Int) = [⟨m, 0, a⟩] := by
        have : minB (a : Int) = true := by unfold minB; simp; omega
        unfold addL hasM
        simp [this]
      have hN3' : BxM (fun b => b < w1.heap.size) p w3 [⟨m, 0, a⟩] := by
        rw [← e2]
        exact hN3
      rw [show addE [] _ _ = 0 from e1]
      have HK3 := Lib.hid (Kept.first HB2.out hk3)
      have HSI := Lib.hid (si_start (a := a) HF.out)
      have hwa1 : wrap64 ((a : Int) - 1) = (a : Int) - 1 := IntWalk.wrap64_in _ ⟨by omega, by omega⟩
      clear hN3 hk3 e1 e2 c3 z3 HAD hl2
      go_wp2_with fail
      clear hwa1
      go_loopw [12, 13, 14] (fun lv_ iv_ _ wr => ∃ (k : Nat) (last : Int) (xs : List Ox), iv_ = .int .i64 k ∧ lv_ = .int .i64 last ∧ k ≤ mn ∧ SI m.rule m.at_ a k last xs ∧ BxM (fun b => b < w1.heap.size) p wr xs ∧ Kept (fun b => ¬ b < w1.heap.size) w1 wr) (fun _ iv_ _ _ => mn - (intOf iv_).toNat)
      · exact ⟨0, _, _, rfl, rfl, by omega, HSI.out, hN3', HK3.out⟩
      clear hN3'
      obtain ⟨k, last, xs, rfl, rfl, hk, hSI, hN, hK⟩ := hrel
      have HSI2 := Lib.hid hSI
      have HN := Lib.hid hN
      have HK := Lib.hid hK
      clear hSI hN hK HK3 HB2
      by_cases hlt : k < mn
      · have hkk : (k : Int) < (mn : Int) := by omega
        obtain ⟨B, hB⟩ : ∃ B : Bool, B = true ↔ ∃ x, l[k]? = some x ∧ (x.2.1.m.rule ≠ m.rule ∨ x.2.1.m.at_ ≠ m.at_) := by
          by_cases hh : ∃ x, l[k]? = some x ∧ (x.2.1.m.rule ≠ m.rule ∨ x.2.1.m.at_ ≠ m.at_)
          · exact ⟨true, by simp [hh]⟩
          · exact ⟨false, by simp [hh]⟩
        have HBB := Lib.hid hB
        clear hB
        go_upto_region 12 with fail
        go_cut [77] (fun bv wx => bv = .bool B ∧ wx = wr.drew)
        case first =>
          as_aux_lemma =>
            have HXB := Lib.hid (HX1.out.kept HK.out (fun h => h HX1.out.lt))
            by_cases hkl : k < l.length
            · obtain ⟨⟨kd, ⟨kv, sv, m'⟩, at'⟩, hx⟩ : ∃ x, l[k]? = some x := ⟨_, List.getElem?_eq_getElem hkl⟩
              obtain ⟨ad, rfl, -, -, hrow⟩ := ((HL1.out.mono (T := fun b => b < w1.heap.size) (fun b hb _ => hb)).kept HK.out (fun b _ s f => f s)).at hx
              obtain ⟨x0, x1, x2, x3, x4, x5, x6⟩ := cells_T hrow hx
              simp only at x1 x3
              have hkk2 : (k : Int) < (l.length : Int) := by omega
              by_cases g1 : m'.rule = m.rule
              · by_cases g2 : m'.at_ = m.at_
                · have hBf : B = false := by
                    rw [Bool.eq_false_iff]
                    intro hb
                    obtain ⟨x, hx', hh⟩ := HBB.out.1 hb
                    rw [hx] at hx'
                    obtain rfl := Option.some.inj hx'
                    exact hh.elim (fun h => h g1) (fun h => h g2)
                  subst hBf
                  clear hx hrow x0 x2 x4 x5 x6 HBB
                  have n1 : (m'.rule != m.rule) = false := by simp [g1]
                  have n2 : (m'.at_ != m.at_) = false := by simp [g2]
                  clear g1 g2
                  refine wp_region_ordH [0, 1, 2, 3, 4, 5, 6, 7, 8, 9, 10, 11, 12, 13, 14, 15, 16, 17, 18, 19, 20, 21, 22, 23, 24, 25] (fun w' => Below wr.heap.size wr w') (by kernel_rfl) (by kernel_rfl) ?_
                  have hb0 : Below wr.heap.size wr wr.drew := (Below.refl _ wr).drew
                  iterate 26 ((first | (refine ordH_free (v := ?_) rfl (by kernel_rfl) (fun _ _ _ h => h) (Or.inl ⟨rfl, fun w' hS => ?_⟩) hb0 ?_; rotate_left; (have d0 := (HXB.out.below hS).rd.1; have x1 := cell_below x1 hS; have x3 := cell_below x3 hS; go_simp <;> with_reducible rfl)) | (refine ordH_free (v := undef) rfl (by kernel_rfl) (fun _ _ _ h => h) (Or.inr ⟨rfl, rfl⟩) hb0 ?_)); (simp only [Act.put, List.setIfInBounds_toArray, List.set_cons_zero, List.set_cons_succ]))
                  refine ⟨by kernel_rfl, ?_⟩
                  go_wp2
                  go_meet
                  case rel => exact ⟨rfl, rfl⟩
                · have hBt : B = true := HBB.out.2 ⟨_, hx, .inr g2⟩
                  subst hBt
                  clear hx hrow x0 x2 x4 x5 x6 HBB
                  have n1 : (m'.rule != m.rule) = false := by simp [g1]
                  have n2 : (m'.at_ != m.at_) = true := by simp [g2]
                  clear g1 g2
                  refine wp_region_ordH [0, 1, 2, 3, 4, 5, 6, 7, 8, 9, 10, 11, 12, 13, 14, 15, 16, 17, 18, 19, 20, 21, 22, 23, 24, 25] (fun w' => Below wr.heap.size wr w') (by kernel_rfl) (by kernel_rfl) ?_
                  have hb0 : Below wr.heap.size wr wr.drew := (Below.refl _ wr).drew
                  iterate 26 ((first | (refine ordH_free (v := ?_) rfl (by kernel_rfl) (fun _ _ _ h => h) (Or.inl ⟨rfl, fun w' hS => ?_⟩) hb0 ?_; rotate_left; (have d0 := (HXB.out.below hS).rd.1; have x1 := cell_below x1 hS; have x3 := cell_below x3 hS; go_simp <;> with_reducible rfl)) | (refine ordH_free (v := undef) rfl (by kernel_rfl) (fun _ _ _ h => h) (Or.inr ⟨rfl, rfl⟩) hb0 ?_)); (simp only [Act.put, List.setIfInBounds_toArray, List.set_cons_zero, List.set_cons_succ]))
                  refine ⟨by kernel_rfl, ?_⟩
                  go_wp2
                  go_meet
                  case rel => exact ⟨rfl, rfl⟩
              · have hBt : B = true := HBB.out.2 ⟨_, hx, .inl g1⟩
                subst hBt
                clear hx hrow x0 x2 x4 x5 x6 HBB
                have n1 : (m'.rule != m.rule) = true := by simp [g1]
                clear g1
                refine wp_region_ordH [0, 1, 2, 3, 4, 5, 6, 7, 8, 9, 10, 11, 12, 13, 14, 15, 16, 17, 18, 19, 20, 21, 22, 23, 24, 25] (fun w' => Below wr.heap.size wr w') (by kernel_rfl) (by kernel_rfl) ?_
                have hb0 : Below wr.heap.size wr wr.drew := (Below.refl _ wr).drew
                iterate 26 ((first | (refine ordH_free (v := ?_) rfl (by kernel_rfl) (fun _ _ _ h => h) (Or.inl ⟨rfl, fun w' hS => ?_⟩) hb0 ?_; rotate_left; (have d0 := (HXB.out.below hS).rd.1; have x1 := cell_below x1 hS; have x3 := cell_below x3 hS; go_simp <;> with_reducible rfl)) | (refine ordH_free (v := undef) rfl (by kernel_rfl) (fun _ _ _ h => h) (Or.inr ⟨rfl, rfl⟩) hb0 ?_)); (simp only [Act.put, List.setIfInBounds_toArray, List.set_cons_zero, List.set_cons_succ]))
                refine ⟨by kernel_rfl, ?_⟩
                go_wp2
                go_meet
                case rel => exact ⟨rfl, rfl⟩
            · have hBf : B = false := by
                rw [Bool.eq_false_iff]
                intro hb
                obtain ⟨x, hx', _⟩ := HBB.out.1 hb
                have := (List.getElem?_eq_some_iff.1 hx').1
                omega
              subst hBf
              have hkk2 : ¬ (k : Int) < (l.length : Int) := by omega
              clear HBB
              refine wp_region_ordH [0, 1, 2, 3, 4, 5, 6, 7, 8, 9, 10, 11, 12, 13, 14, 15, 16, 17, 18, 19, 20, 21, 22, 23, 24, 25] (fun w' => Below wr.heap.size wr w') (by kernel_rfl) (by kernel_rfl) ?_
              have hb0 : Below wr.heap.size wr wr.drew := (Below.refl _ wr).drew
              iterate 26 ((first | (refine ordH_free (v := ?_) rfl (by kernel_rfl) (fun _ _ _ h => h) (Or.inl ⟨rfl, fun w' hS => ?_⟩) hb0 ?_; rotate_left; (skip; go_simp <;> with_reducible rfl)) | (refine ordH_free (v := undef) rfl (by kernel_rfl) (fun _ _ _ h => h) (Or.inr ⟨rfl, rfl⟩) hb0 ?_)); (simp only [Act.put, List.setIfInBounds_toArray, List.set_cons_zero, List.set_cons_succ]))
              refine ⟨by kernel_rfl, ?_⟩
              go_wp2
              go_meet
              case rel => exact ⟨rfl, rfl⟩
        case rest =>
          obtain ⟨rfl, rfl⟩ := hcut
          go_upto_if 77 with fail
          go_cut [] (fun wx => ∃ xs', SI m.rule m.at_ a k last xs' ∧ BxM (fun b => b < w1.heap.size) p wx xs' ∧ Kept (fun b => ¬ b < w1.heap.size) w1 wx)
          case first =>
            as_aux_lemma =>
              have hSd : Below wr.heap.size wr wr.drew := (Below.refl _ wr).drew
              have hNd := HN.out.below hSd
              have hKd := HK.out.trans (kept_of_below (F := fun b => ¬ b < w1.heap.size) hSd) (fun _ _ x => x) (fun _ _ x => x)
              have HND := Lib.hid hNd
              have HKD2 := Lib.hid hKd
              clear hSd hNd hKd
              cases B with
              | false =>
                go_wp2_with fail
                go_meet
                case rel => exact ⟨xs, HSI2.out, HND.out, HKD2.out⟩
              | true =>
                obtain ⟨⟨kd, ⟨kv, sv, m'⟩, at'⟩, hx, hne⟩ := HBB.out.1 rfl
                obtain ⟨ad, rfl, -, hbk0, hrow⟩ := ((HL1.out.mono (T := fun b => b < w1.heap.size) (fun b hb _ => hb)).kept HKD2.out (fun b _ s f => f s)).at hx
                obtain ⟨x0, x1, x2, x3, x4, x5, x6⟩ := cells_T hrow hx
                have hbk : (ad.add (k * 7)).block < w1.heap.size := by rw [add_block']; exact hbk0
                have hmem := List.mem_of_getElem? hx
                have hmo1 := HLM1.out _ hmem
                have hmo := (hmo1.mono (T := fun b => b < w1.heap.size) (fun b hb _ => hb)).kept HKD2.out (fun b _ s f => f s)
                obtain ⟨q3, d3, e3, -, -⟩ := hmo.k.len
                obtain ⟨q4, d4, e4, -, -⟩ := hmo.s.len
                simp only at e3 e4 x0 x1 x2 x3 x4 x5 x6 hne
                subst e3 e4
                have hkk2 : (k : Int) < (l.length : Int) := by have := (List.getElem?_eq_some_iff.1 hx).1; omega
                have hsz := HKD2.out.size
                have HAD := Lib.hid (add_m (at_ := (a : Int) + k) HND.out (fun b m => Nat.lt_of_lt_of_le m hsz) hmo (HLF.out _ hmem) HSI2.out.g.len)
                have HAK := Lib.hid (ack_m (r := m'.rule) (i := m'.at_) HND.out (by have := HSI2.out.g.len; omega))
                have HSA := Lib.hid (HSI2.out.add (t := (a : Int) + k) (HLF.out _ hmem) hne)
                have HSK := Lib.hid (HSI2.out.ack hne)
                clear hx hrow hmem hmo1 hmo hne
                by_cases gk : kd.tmod 2 = 0
                · have gk' : (kd.tmod 2 == 0) = true := by rw [beq_iff_eq]; exact gk
                  clear gk
                  go_wp2_with fail
                  refine HAD.out.mono ?_
                  rintro e w4 ⟨rfl, hN4, hk4⟩
                  have HK4 := Lib.hid (HKD2.out.trans hk4 (fun _ _ x => x) (fun _ _ x => x))
                  have HN4 := Lib.hid hN4
                  clear hN4 hk4 HAD
                  go_wp2_with fail
                  go_meet
                  case rel => exact ⟨_, HSA.out, HN4.out, HK4.out⟩
                · have gk' : (kd.tmod 2 == 0) = false := by rw [beq_eq_false_iff_ne]; exact gk
                  clear gk
                  go_wp2_with fail
                  refine anyH_start 14 (fun w' => Kept (fun b => ¬ b < w1.heap.size) wr.drew w') (by kernel_rfl) rfl ?_
                  have hb1 : Below wr.drew.heap.size wr.drew wr.drew.drew := (Below.refl _ wr.drew).drew
                  have hb0 : Kept (fun b => ¬ b < w1.heap.size) wr.drew wr.drew.drew := kept_of_below hb1
                  ((first | (refine anyH_free (i := 0) (v := ?_) rfl (by kernel_rfl) (fun _ _ _ h => h) (Or.inl ⟨rfl, fun w' hS => ?_⟩) hb0 ?_; rotate_left; (have x1 := (hS.cell (World.block_lt_of_cell? _ _ x1) (fun f => f hbk)).trans x1; have x3 := (hS.cell (World.block_lt_of_cell? _ _ x3) (fun f => f hbk)).trans x3; go_simp <;> with_reducible rfl)) | (refine anyH_free (i := 0) (v := undef) rfl (by kernel_rfl) (fun _ _ _ h => h) (Or.inr ⟨rfl, rfl⟩) hb0 ?_)); (simp only [Act.put, List.setIfInBounds_toArray, List.set_cons_zero, List.set_cons_succ])); ((first | (refine anyH_free (i := 1) (v := ?_) rfl (by kernel_rfl) (fun _ _ _ h => h) (Or.inl ⟨rfl, fun w' hS => ?_⟩) hb0 ?_; rotate_left; (have x1 := (hS.cell (World.block_lt_of_cell? _ _ x1) (fun f => f hbk)).trans x1; have x3 := (hS.cell (World.block_lt_of_cell? _ _ x3) (fun f => f hbk)).trans x3; go_simp <;> with_reducible rfl)) | (refine anyH_free (i := 1) (v := undef) rfl (by kernel_rfl) (fun _ _ _ h => h) (Or.inr ⟨rfl, rfl⟩) hb0 ?_)); (simp only [Act.put, List.setIfInBounds_toArray, List.set_cons_zero, List.set_cons_succ])); ((first | (refine anyH_free (i := 2) (v := ?_) rfl (by kernel_rfl) (fun _ _ _ h => h) (Or.inl ⟨rfl, fun w' hS => ?_⟩) hb0 ?_; rotate_left; (have x1 := (hS.cell (World.block_lt_of_cell? _ _ x1) (fun f => f hbk)).trans x1; have x3 := (hS.cell (World.block_lt_of_cell? _ _ x3) (fun f => f hbk)).trans x3; go_simp <;> with_reducible rfl)) | (refine anyH_free (i := 2) (v := undef) rfl (by kernel_rfl) (fun _ _ _ h => h) (Or.inr ⟨rfl, rfl⟩) hb0 ?_)); (simp only [Act.put, List.setIfInBounds_toArray, List.set_cons_zero, List.set_cons_succ])); ((first | (refine anyH_free (i := 3) (v := ?_) rfl (by kernel_rfl) (fun _ _ _ h => h) (Or.inl ⟨rfl, fun w' hS => ?_⟩) hb0 ?_; rotate_left; (have x1 := (hS.cell (World.block_lt_of_cell? _ _ x1) (fun f => f hbk)).trans x1; have x3 := (hS.cell (World.block_lt_of_cell? _ _ x3) (fun f => f hbk)).trans x3; go_simp <;> with_reducible rfl)) | (refine anyH_free (i := 3) (v := undef) rfl (by kernel_rfl) (fun _ _ _ h => h) (Or.inr ⟨rfl, rfl⟩) hb0 ?_)); (simp only [Act.put, List.setIfInBounds_toArray, List.set_cons_zero, List.set_cons_succ])); ((first | (refine anyH_free (i := 4) (v := ?_) rfl (by kernel_rfl) (fun _ _ _ h => h) (Or.inl ⟨rfl, fun w' hS => ?_⟩) hb0 ?_; rotate_left; (have x1 := (hS.cell (World.block_lt_of_cell? _ _ x1) (fun f => f hbk)).trans x1; have x3 := (hS.cell (World.block_lt_of_cell? _ _ x3) (fun f => f hbk)).trans x3; go_simp <;> with_reducible rfl)) | (refine anyH_free (i := 4) (v := undef) rfl (by kernel_rfl) (fun _ _ _ h => h) (Or.inr ⟨rfl, rfl⟩) hb0 ?_)); (simp only [Act.put, List.setIfInBounds_toArray, List.set_cons_zero, List.set_cons_succ])); ((first | (refine anyH_free (i := 5) (v := ?_) rfl (by kernel_rfl) (fun _ _ _ h => h) (Or.inl ⟨rfl, fun w' hS => ?_⟩) hb0 ?_; rotate_left; (have x1 := (hS.cell (World.block_lt_of_cell? _ _ x1) (fun f => f hbk)).trans x1; have x3 := (hS.cell (World.block_lt_of_cell? _ _ x3) (fun f => f hbk)).trans x3; go_simp <;> with_reducible rfl)) | (refine anyH_free (i := 5) (v := undef) rfl (by kernel_rfl) (fun _ _ _ h => h) (Or.inr ⟨rfl, rfl⟩) hb0 ?_)); (simp only [Act.put, List.setIfInBounds_toArray, List.set_cons_zero, List.set_cons_succ])); ((first | (refine anyH_free (i := 6) (v := ?_) rfl (by kernel_rfl) (fun _ _ _ h => h) (Or.inl ⟨rfl, fun w' hS => ?_⟩) hb0 ?_; rotate_left; (have x1 := (hS.cell (World.block_lt_of_cell? _ _ x1) (fun f => f hbk)).trans x1; have x3 := (hS.cell (World.block_lt_of_cell? _ _ x3) (fun f => f hbk)).trans x3; go_simp <;> with_reducible rfl)) | (refine anyH_free (i := 6) (v := undef) rfl (by kernel_rfl) (fun _ _ _ h => h) (Or.inr ⟨rfl, rfl⟩) hb0 ?_)); (simp only [Act.put, List.setIfInBounds_toArray, List.set_cons_zero, List.set_cons_succ])); ((first | (refine anyH_free (i := 7) (v := ?_) rfl (by kernel_rfl) (fun _ _ _ h => h) (Or.inl ⟨rfl, fun w' hS => ?_⟩) hb0 ?_; rotate_left; (have x1 := (hS.cell (World.block_lt_of_cell? _ _ x1) (fun f => f hbk)).trans x1; have x3 := (hS.cell (World.block_lt_of_cell? _ _ x3) (fun f => f hbk)).trans x3; go_simp <;> with_reducible rfl)) | (refine anyH_free (i := 7) (v := undef) rfl (by kernel_rfl) (fun _ _ _ h => h) (Or.inr ⟨rfl, rfl⟩) hb0 ?_)); (simp only [Act.put, List.setIfInBounds_toArray, List.set_cons_zero, List.set_cons_succ])); ((first | (refine anyH_free (i := 8) (v := ?_) rfl (by kernel_rfl) (fun _ _ _ h => h) (Or.inl ⟨rfl, fun w' hS => ?_⟩) hb0 ?_; rotate_left; (have x1 := (hS.cell (World.block_lt_of_cell? _ _ x1) (fun f => f hbk)).trans x1; have x3 := (hS.cell (World.block_lt_of_cell? _ _ x3) (fun f => f hbk)).trans x3; go_simp <;> with_reducible rfl)) | (refine anyH_free (i := 8) (v := undef) rfl (by kernel_rfl) (fun _ _ _ h => h) (Or.inr ⟨rfl, rfl⟩) hb0 ?_)); (simp only [Act.put, List.setIfInBounds_toArray, List.set_cons_zero, List.set_cons_succ])); ((first | (refine anyH_free (i := 9) (v := ?_) rfl (by kernel_rfl) (fun _ _ _ h => h) (Or.inl ⟨rfl, fun w' hS => ?_⟩) hb0 ?_; rotate_left; (have x1 := (hS.cell (World.block_lt_of_cell? _ _ x1) (fun f => f hbk)).trans x1; have x3 := (hS.cell (World.block_lt_of_cell? _ _ x3) (fun f => f hbk)).trans x3; go_simp <;> with_reducible rfl)) | (refine anyH_free (i := 9) (v := undef) rfl (by kernel_rfl) (fun _ _ _ h => h) (Or.inr ⟨rfl, rfl⟩) hb0 ?_)); (simp only [Act.put, List.setIfInBounds_toArray, List.set_cons_zero, List.set_cons_succ])); ((first | (refine anyH_free (i := 10) (v := ?_) rfl (by kernel_rfl) (fun _ _ _ h => h) (Or.inl ⟨rfl, fun w' hS => ?_⟩) hb0 ?_; rotate_left; (have x1 := (hS.cell (World.block_lt_of_cell? _ _ x1) (fun f => f hbk)).trans x1; have x3 := (hS.cell (World.block_lt_of_cell? _ _ x3) (fun f => f hbk)).trans x3; go_simp <;> with_reducible rfl)) | (refine anyH_free (i := 10) (v := undef) rfl (by kernel_rfl) (fun _ _ _ h => h) (Or.inr ⟨rfl, rfl⟩) hb0 ?_)); (simp only [Act.put, List.setIfInBounds_toArray, List.set_cons_zero, List.set_cons_succ])); ((first | (refine anyH_free (i := 11) (v := ?_) rfl (by kernel_rfl) (fun _ _ _ h => h) (Or.inl ⟨rfl, fun w' hS => ?_⟩) hb0 ?_; rotate_left; (have x1 := (hS.cell (World.block_lt_of_cell? _ _ x1) (fun f => f hbk)).trans x1; have x3 := (hS.cell (World.block_lt_of_cell? _ _ x3) (fun f => f hbk)).trans x3; go_simp <;> with_reducible rfl)) | (refine anyH_free (i := 11) (v := undef) rfl (by kernel_rfl) (fun _ _ _ h => h) (Or.inr ⟨rfl, rfl⟩) hb0 ?_)); (simp only [Act.put, List.setIfInBounds_toArray, List.set_cons_zero, List.set_cons_succ])); ((first | (refine anyH_free (i := 12) (v := ?_) rfl (by kernel_rfl) (fun _ _ _ h => h) (Or.inl ⟨rfl, fun w' hS => ?_⟩) hb0 ?_; rotate_left; (have x1 := (hS.cell (World.block_lt_of_cell? _ _ x1) (fun f => f hbk)).trans x1; have x3 := (hS.cell (World.block_lt_of_cell? _ _ x3) (fun f => f hbk)).trans x3; go_simp <;> with_reducible rfl)) | (refine anyH_free (i := 12) (v := undef) rfl (by kernel_rfl) (fun _ _ _ h => h) (Or.inr ⟨rfl, rfl⟩) hb0 ?_)); (simp only [Act.put, List.setIfInBounds_toArray, List.set_cons_zero, List.set_cons_succ]))
                  refine anyH_sole (i := 13) rfl (by kernel_rfl) rfl (fun K hK => ?_)
                  go_simp
                  refine (ack_m (r := m'.rule) (i := m'.at_) (HND.out.below hb1) (by have := HSI2.out.g.len; omega)).mono ?_
                  rintro e w4 ⟨rfl, hN4, hk4⟩
                  have HK4 := Lib.hid ((HKD2.out.trans hb0 (fun _ _ x => x) (fun _ _ x => x)).trans hk4 (fun _ _ x => x) (fun _ _ x => x))
                  have HN4 := Lib.hid hN4
                  refine hK _ _ (hb0.trans hk4 (fun _ _ x => x) (fun _ _ x => x)) ?_
                  clear hK K hN4 hk4
                  refine anyH_done (by kernel_rfl) ?_
                  go_wp2_with fail
                  go_meet
                  case rel => exact ⟨_, HSK.out, HN4.out, HK4.out⟩
          case rest =>
            obtain ⟨xs1, hS1, hN1, hK1⟩ := hcut
            obtain ⟨W1, hW1⟩ : ∃ W1, W1 = wc := ⟨_, rfl⟩
            rw [← hW1] at hN1 hK1 ⊢
            have hk200 : k ≤ 200 := by omega
            obtain ⟨n, n1, n2, n3, n4, n5, hS2⟩ := hS1.pump (by omega) hk200
            have HG1 := Lib.hid hS1.g
            have hll := hS1.l1
            have HWI : Hid (IntKind.i64.wrap ((a : Int) + k) = (a : Int) + k) := Lib.hid (IntWalk.i64_in _ ⟨by omega, by omega⟩)
            have hm : minB ((a : Int) + k) = true := by unfold minB; simp; omega
            have HG2 := Lib.hid (hS1.g.send hm)
            have HC1 := Lib.hid n1
            have HC2 := Lib.hid n3
            have HS2 := Lib.hid hS2
            have HN1 := Lib.hid hN1
            have HK1 := Lib.hid hK1
            have HXB := Lib.hid (HX1.out.kept hK1 (fun h => h HX1.out.lt))
            have HMB := Lib.hid ((HM1.out.mono (T := fun b => b < w1.heap.size) (fun b hb _ => hb)).kept hK1 (fun b _ s f => f s))
            clear hW1 hS1 hN1 hK1 n1 n3 hS2 hm HSI2 HN HK HBB
            go_upto_region 16 with fail
            go_cut [14] (fun nv wx => nv = .int .i64 n ∧ BxM (fun b => b < w1.heap.size) p wx (sendL xs1 ((a : Int) + k)) ∧ Kept (fun b => ¬ b < w1.heap.size) w1 wx)
            case first =>
              as_aux_lemma =>
                refine anyH_start 8 (fun w' => Kept (fun b => ¬ b < w1.heap.size) W1 w') (by kernel_rfl) rfl ?_
                have hb1 : Below W1.heap.size W1 W1.drew := (Below.refl _ W1).drew
                have hb0 : Kept (fun b => ¬ b < w1.heap.size) W1 W1.drew := kept_of_below hb1
                ((first | (refine anyH_free (i := 0) (v := ?_) rfl (by kernel_rfl) (fun _ _ _ h => h) (Or.inl ⟨rfl, fun w' hS => ?_⟩) hb0 ?_; rotate_left; (have d0 := (HXB.out.kept hS (fun h => h HX1.out.lt)).rd.1; go_simp <;> with_reducible rfl)) | (refine anyH_free (i := 0) (v := undef) rfl (by kernel_rfl) (fun _ _ _ h => h) (Or.inr ⟨rfl, rfl⟩) hb0 ?_)); (simp only [Act.put, List.setIfInBounds_toArray, List.set_cons_zero, List.set_cons_succ])); ((first | (refine anyH_free (i := 1) (v := ?_) rfl (by kernel_rfl) (fun _ _ _ h => h) (Or.inl ⟨rfl, fun w' hS => ?_⟩) hb0 ?_; rotate_left; (have d0 := (HXB.out.kept hS (fun h => h HX1.out.lt)).rd.1; go_simp <;> with_reducible rfl)) | (refine anyH_free (i := 1) (v := undef) rfl (by kernel_rfl) (fun _ _ _ h => h) (Or.inr ⟨rfl, rfl⟩) hb0 ?_)); (simp only [Act.put, List.setIfInBounds_toArray, List.set_cons_zero, List.set_cons_succ])); ((first | (refine anyH_free (i := 2) (v := ?_) rfl (by kernel_rfl) (fun _ _ _ h => h) (Or.inl ⟨rfl, fun w' hS => ?_⟩) hb0 ?_; rotate_left; (have d0 := (HXB.out.kept hS (fun h => h HX1.out.lt)).rd.1; go_simp <;> with_reducible rfl)) | (refine anyH_free (i := 2) (v := undef) rfl (by kernel_rfl) (fun _ _ _ h => h) (Or.inr ⟨rfl, rfl⟩) hb0 ?_)); (simp only [Act.put, List.setIfInBounds_toArray, List.set_cons_zero, List.set_cons_succ])); ((first | (refine anyH_free (i := 3) (v := ?_) rfl (by kernel_rfl) (fun _ _ _ h => h) (Or.inl ⟨rfl, fun w' hS => ?_⟩) hb0 ?_; rotate_left; (have d0 := (HXB.out.kept hS (fun h => h HX1.out.lt)).rd.1; go_simp <;> with_reducible rfl)) | (refine anyH_free (i := 3) (v := undef) rfl (by kernel_rfl) (fun _ _ _ h => h) (Or.inr ⟨rfl, rfl⟩) hb0 ?_)); (simp only [Act.put, List.setIfInBounds_toArray, List.set_cons_zero, List.set_cons_succ])); ((first | (refine anyH_free (i := 5) (v := ?_) rfl (by kernel_rfl) (fun _ _ _ h => h) (Or.inl ⟨rfl, fun w' hS => ?_⟩) hb0 ?_; rotate_left; (have d0 := (HXB.out.kept hS (fun h => h HX1.out.lt)).rd.1; go_simp <;> with_reducible rfl)) | (refine anyH_free (i := 5) (v := undef) rfl (by kernel_rfl) (fun _ _ _ h => h) (Or.inr ⟨rfl, rfl⟩) hb0 ?_)); (simp only [Act.put, List.setIfInBounds_toArray, List.set_cons_zero, List.set_cons_succ]))
                refine anyH_sole (i := 4) rfl (by kernel_rfl) rfl (fun K hK => ?_)
                go_simp
                rw [HWI.out]
                refine (pump_m (at_ := (a : Int) + k) (HN1.out.below hb1) (by have := HG1.out.len; omega) HG1.out.few (HG1.out.ok (by omega))).mono ?_
                rintro e w4 ⟨v4, os, rfl, hos, hR, hN4, hk4⟩
                obtain ⟨pv, cv, rfl⟩ := owns_slice hR.own
                have hk5 := hb0.trans hk4 (fun _ _ x => x) (fun _ _ x => x)
                refine hK _ _ hk5 ?_
                clear hK K
                refine anyH_sole (i := 6) rfl (by kernel_rfl) rfl (fun K hK => ?_)
                go_simp
                have hol : os.length ≤ 1000 := by
                  rw [← List.length_map (f := Mr.m), hos]
                  have := HG1.out.len
                  unfold sendO pumpO
                  split
                  · rw [List.length_map]
                    exact Nat.le_trans (List.length_filter_le _ _) (by omega)
                  · simp
                refine (mine_any (r := ⟨.slice q1 m.ks.length d1, .slice q2 m.ss.length d2, m⟩) (Sl.owned encM_len hR.own) hol).mono ?_
                rintro e w5 ⟨rfl, hb⟩
                have hk6 := hk5.later hb
                have HN6 : Hid (BxM (fun b => b < w1.heap.size) p w5 (sendL xs1 ((a : Int) + k))) := Lib.hid ((hN4.turn (L := fun b => b < w1.heap.size) (fun b _ m => .inl m)).below hb)
                have HK6 := Lib.hid (HK1.out.trans hk6 (fun _ _ x => x) (fun _ _ x => x))
                refine hK _ _ hk6 ?_
                clear hK K
                rw [hos]
                simp only [HC1.out]
                ((first | (refine anyH_free (i := 7) (v := ?_) rfl (by kernel_rfl) (fun _ _ _ h => h) (Or.inl ⟨rfl, fun w' hS => ?_⟩) hk6 ?_; rotate_left; (skip; go_simp <;> with_reducible rfl)) | (refine anyH_free (i := 7) (v := undef) rfl (by kernel_rfl) (fun _ _ _ h => h) (Or.inr ⟨rfl, rfl⟩) hk6 ?_)); (simp only [Act.put, List.setIfInBounds_toArray, List.set_cons_zero, List.set_cons_succ]))
                refine anyH_done (by kernel_rfl) ?_
                clear hos hR hN4 hk4 hk5 hk6 hb hb0 hb1
                go_wp2_with fail
                go_meet
                case rel => exact ⟨rfl, HN6.out, HK6.out⟩
            case rest =>
              obtain ⟨rfl, hN2, hK2⟩ := hcut
              obtain ⟨W2, hW2⟩ : ∃ W2, W2 = wc := ⟨_, rfl⟩
              rw [← hW2] at hN2 hK2 ⊢
              have HN2 := Lib.hid hN2
              have HK2 := Lib.hid hK2
              have HXB2 := Lib.hid (HX1.out.kept hK2 (fun h => h HX1.out.lt))
              have HG3 : Hid (SG (2 * (k + 1)) (sendL (sendL xs1 ((a : Int) + k)) ((a : Int) + k))) := Lib.hid HS2.out.g
              clear hW2 hN2 hK2 HXB HN1 HK1
              go_upto_region 17 with fail
              go_cut [147] (fun bv wx => bv = .bool false ∧ BxM (fun b => b < w1.heap.size) p wx (sendL (sendL xs1 ((a : Int) + k)) ((a : Int) + k)) ∧ Kept (fun b => ¬ b < w1.heap.size) w1 wx)
              case first =>
                as_aux_lemma =>
                  refine anyH_start 32 (fun w' => Kept (fun b => ¬ b < w1.heap.size) W2 w') (by kernel_rfl) rfl ?_
                  have hb1 : Below W2.heap.size W2 W2.drew := (Below.refl _ W2).drew
                  have hb0 : Kept (fun b => ¬ b < w1.heap.size) W2 W2.drew := kept_of_below hb1
                  have g1 : decide ((1 : Int) < (n : Int)) = false := by simp; omega
                  ((first | (refine anyH_free (i := 0) (v := ?_) rfl (by kernel_rfl) (fun _ _ _ h => h) (Or.inl ⟨rfl, fun w' hS => ?_⟩) hb0 ?_; rotate_left; (have d0 := (HXB2.out.kept hS (fun h => h HX1.out.lt)).rd.1; go_simp <;> with_reducible rfl)) | (refine anyH_free (i := 0) (v := undef) rfl (by kernel_rfl) (fun _ _ _ h => h) (Or.inr ⟨rfl, rfl⟩) hb0 ?_)); (simp only [Act.put, List.setIfInBounds_toArray, List.set_cons_zero, List.set_cons_succ])); ((first | (refine anyH_free (i := 1) (v := ?_) rfl (by kernel_rfl) (fun _ _ _ h => h) (Or.inl ⟨rfl, fun w' hS => ?_⟩) hb0 ?_; rotate_left; (have d0 := (HXB2.out.kept hS (fun h => h HX1.out.lt)).rd.1; go_simp <;> with_reducible rfl)) | (refine anyH_free (i := 1) (v := undef) rfl (by kernel_rfl) (fun _ _ _ h => h) (Or.inr ⟨rfl, rfl⟩) hb0 ?_)); (simp only [Act.put, List.setIfInBounds_toArray, List.set_cons_zero, List.set_cons_succ])); ((first | (refine anyH_free (i := 2) (v := ?_) rfl (by kernel_rfl) (fun _ _ _ h => h) (Or.inl ⟨rfl, fun w' hS => ?_⟩) hb0 ?_; rotate_left; (have d0 := (HXB2.out.kept hS (fun h => h HX1.out.lt)).rd.1; go_simp <;> with_reducible rfl)) | (refine anyH_free (i := 2) (v := undef) rfl (by kernel_rfl) (fun _ _ _ h => h) (Or.inr ⟨rfl, rfl⟩) hb0 ?_)); (simp only [Act.put, List.setIfInBounds_toArray, List.set_cons_zero, List.set_cons_succ])); ((first | (refine anyH_free (i := 3) (v := ?_) rfl (by kernel_rfl) (fun _ _ _ h => h) (Or.inl ⟨rfl, fun w' hS => ?_⟩) hb0 ?_; rotate_left; (have d0 := (HXB2.out.kept hS (fun h => h HX1.out.lt)).rd.1; go_simp <;> with_reducible rfl)) | (refine anyH_free (i := 3) (v := undef) rfl (by kernel_rfl) (fun _ _ _ h => h) (Or.inr ⟨rfl, rfl⟩) hb0 ?_)); (simp only [Act.put, List.setIfInBounds_toArray, List.set_cons_zero, List.set_cons_succ])); ((first | (refine anyH_free (i := 4) (v := ?_) rfl (by kernel_rfl) (fun _ _ _ h => h) (Or.inl ⟨rfl, fun w' hS => ?_⟩) hb0 ?_; rotate_left; (have d0 := (HXB2.out.kept hS (fun h => h HX1.out.lt)).rd.1; go_simp <;> with_reducible rfl)) | (refine anyH_free (i := 4) (v := undef) rfl (by kernel_rfl) (fun _ _ _ h => h) (Or.inr ⟨rfl, rfl⟩) hb0 ?_)); (simp only [Act.put, List.setIfInBounds_toArray, List.set_cons_zero, List.set_cons_succ])); ((first | (refine anyH_free (i := 5) (v := ?_) rfl (by kernel_rfl) (fun _ _ _ h => h) (Or.inl ⟨rfl, fun w' hS => ?_⟩) hb0 ?_; rotate_left; (have d0 := (HXB2.out.kept hS (fun h => h HX1.out.lt)).rd.1; go_simp <;> with_reducible rfl)) | (refine anyH_free (i := 5) (v := undef) rfl (by kernel_rfl) (fun _ _ _ h => h) (Or.inr ⟨rfl, rfl⟩) hb0 ?_)); (simp only [Act.put, List.setIfInBounds_toArray, List.set_cons_zero, List.set_cons_succ])); ((first | (refine anyH_free (i := 6) (v := ?_) rfl (by kernel_rfl) (fun _ _ _ h => h) (Or.inl ⟨rfl, fun w' hS => ?_⟩) hb0 ?_; rotate_left; (have d0 := (HXB2.out.kept hS (fun h => h HX1.out.lt)).rd.1; go_simp <;> with_reducible rfl)) | (refine anyH_free (i := 6) (v := undef) rfl (by kernel_rfl) (fun _ _ _ h => h) (Or.inr ⟨rfl, rfl⟩) hb0 ?_)); (simp only [Act.put, List.setIfInBounds_toArray, List.set_cons_zero, List.set_cons_succ])); ((first | (refine anyH_free (i := 8) (v := ?_) rfl (by kernel_rfl) (fun _ _ _ h => h) (Or.inl ⟨rfl, fun w' hS => ?_⟩) hb0 ?_; rotate_left; (have d0 := (HXB2.out.kept hS (fun h => h HX1.out.lt)).rd.1; go_simp <;> with_reducible rfl)) | (refine anyH_free (i := 8) (v := undef) rfl (by kernel_rfl) (fun _ _ _ h => h) (Or.inr ⟨rfl, rfl⟩) hb0 ?_)); (simp only [Act.put, List.setIfInBounds_toArray, List.set_cons_zero, List.set_cons_succ]))
                  refine anyH_sole (i := 7) rfl (by kernel_rfl) rfl (fun K hK => ?_)
                  go_simp
                  rw [HWI.out]
                  refine (pump_m (at_ := (a : Int) + k) (HN2.out.below hb1) (by have := HG2.out.len; omega) HG2.out.few (HG2.out.ok (by omega))).mono ?_
                  rintro e w4 ⟨v4, os, rfl, hos, hR, hN4, hk4⟩
                  obtain ⟨pv, cv, rfl⟩ := owns_slice hR.own
                  have hk5 := hb0.trans hk4 (fun _ _ x => x) (fun _ _ x => x)
                  refine hK _ _ hk5 ?_
                  clear hK K
                  refine anyH_sole (i := 9) rfl (by kernel_rfl) rfl (fun K hK => ?_)
                  go_simp
                  have hol : os.length ≤ 1000 := by
                    rw [← List.length_map (f := Mr.m), hos]
                    have := HG2.out.len
                    unfold sendO pumpO
                    split
                    · rw [List.length_map]
                      exact Nat.le_trans (List.length_filter_le _ _) (by omega)
                    · simp
                  refine (mine_any (r := ⟨.slice q1 m.ks.length d1, .slice q2 m.ss.length d2, m⟩) (Sl.owned encM_len hR.own) hol).mono ?_
                  rintro e w5 ⟨rfl, hb⟩
                  have hk6 := hk5.later hb
                  have HN6 : Hid (BxM (fun b => b < w1.heap.size) p w5 (sendL (sendL xs1 ((a : Int) + k)) ((a : Int) + k))) := Lib.hid ((hN4.turn (L := fun b => b < w1.heap.size) (fun b _ m => .inl m)).below hb)
                  have HK6 := Lib.hid (HK2.out.trans hk6 (fun _ _ x => x) (fun _ _ x => x))
                  refine hK _ _ hk6 ?_
                  clear hK K
                  rw [hos]
                  simp only [HC2.out]
                  clear hos hR hN4 hk4 hk5 hb hb0 hb1 hol
                  have hnn : n = 0 ∧ k ≠ 0 ∨ n = 1 ∧ k = 0 ∨ n = 1 ∧ k ≠ 0 := by omega
                  rcases hnn with ⟨rfl, hk0⟩ | ⟨rfl, hk0⟩ | ⟨rfl, hk0⟩
                  · have hl0 := HS2.out.l0
                    have hl16 := n4 rfl
                    rw [if_pos rfl] at hl0
                    have e0 : ((k : Int) == 0) = false := by rw [beq_eq_false_iff_ne]; omega
                    have e1 : IntKind.i64.wrap ((a : Int) + k) = (a : Int) + k := HWI.out
                    have e2 : IntKind.i64.wrap ((a : Int) + k - last) = (a : Int) + k - last := IntWalk.i64_in _ ⟨by omega, by omega⟩
                    have e3 : decide ((16 : Int) ≤ (a : Int) + k - last) = false := by simp; omega
                    clear hl0 hl16 n4 n5 n2
                    ((first | (refine anyH_free (i := 10) (v := ?_) rfl (by kernel_rfl) (fun _ _ _ h => h) (Or.inl ⟨rfl, fun w' hS => ?_⟩) hk6 ?_; rotate_left; (skip; go_simp <;> with_reducible rfl)) | (refine anyH_free (i := 10) (v := undef) rfl (by kernel_rfl) (fun _ _ _ h => h) (Or.inr ⟨rfl, rfl⟩) hk6 ?_)); (simp only [Act.put, List.setIfInBounds_toArray, List.set_cons_zero, List.set_cons_succ])); ((first | (refine anyH_free (i := 11) (v := ?_) rfl (by kernel_rfl) (fun _ _ _ h => h) (Or.inl ⟨rfl, fun w' hS => ?_⟩) hk6 ?_; rotate_left; (skip; go_simp <;> with_reducible rfl)) | (refine anyH_free (i := 11) (v := undef) rfl (by kernel_rfl) (fun _ _ _ h => h) (Or.inr ⟨rfl, rfl⟩) hk6 ?_)); (simp only [Act.put, List.setIfInBounds_toArray, List.set_cons_zero, List.set_cons_succ])); ((first | (refine anyH_free (i := 12) (v := ?_) rfl (by kernel_rfl) (fun _ _ _ h => h) (Or.inl ⟨rfl, fun w' hS => ?_⟩) hk6 ?_; rotate_left; (skip; go_simp <;> with_reducible rfl)) | (refine anyH_free (i := 12) (v := undef) rfl (by kernel_rfl) (fun _ _ _ h => h) (Or.inr ⟨rfl, rfl⟩) hk6 ?_)); (simp only [Act.put, List.setIfInBounds_toArray, List.set_cons_zero, List.set_cons_succ])); ((first | (refine anyH_free (i := 13) (v := ?_) rfl (by kernel_rfl) (fun _ _ _ h => h) (Or.inl ⟨rfl, fun w' hS => ?_⟩) hk6 ?_; rotate_left; (skip; go_simp <;> with_reducible rfl)) | (refine anyH_free (i := 13) (v := undef) rfl (by kernel_rfl) (fun _ _ _ h => h) (Or.inr ⟨rfl, rfl⟩) hk6 ?_)); (simp only [Act.put, List.setIfInBounds_toArray, List.set_cons_zero, List.set_cons_succ])); ((first | (refine anyH_free (i := 14) (v := ?_) rfl (by kernel_rfl) (fun _ _ _ h => h) (Or.inl ⟨rfl, fun w' hS => ?_⟩) hk6 ?_; rotate_left; (skip; go_simp <;> with_reducible rfl)) | (refine anyH_free (i := 14) (v := undef) rfl (by kernel_rfl) (fun _ _ _ h => h) (Or.inr ⟨rfl, rfl⟩) hk6 ?_)); (simp only [Act.put, List.setIfInBounds_toArray, List.set_cons_zero, List.set_cons_succ])); ((first | (refine anyH_free (i := 15) (v := ?_) rfl (by kernel_rfl) (fun _ _ _ h => h) (Or.inl ⟨rfl, fun w' hS => ?_⟩) hk6 ?_; rotate_left; (skip; go_simp <;> with_reducible rfl)) | (refine anyH_free (i := 15) (v := undef) rfl (by kernel_rfl) (fun _ _ _ h => h) (Or.inr ⟨rfl, rfl⟩) hk6 ?_)); (simp only [Act.put, List.setIfInBounds_toArray, List.set_cons_zero, List.set_cons_succ])); ((first | (refine anyH_free (i := 16) (v := ?_) rfl (by kernel_rfl) (fun _ _ _ h => h) (Or.inl ⟨rfl, fun w' hS => ?_⟩) hk6 ?_; rotate_left; (skip; go_simp <;> with_reducible rfl)) | (refine anyH_free (i := 16) (v := undef) rfl (by kernel_rfl) (fun _ _ _ h => h) (Or.inr ⟨rfl, rfl⟩) hk6 ?_)); (simp only [Act.put, List.setIfInBounds_toArray, List.set_cons_zero, List.set_cons_succ])); ((first | (refine anyH_free (i := 17) (v := ?_) rfl (by kernel_rfl) (fun _ _ _ h => h) (Or.inl ⟨rfl, fun w' hS => ?_⟩) hk6 ?_; rotate_left; (skip; go_simp <;> with_reducible rfl)) | (refine anyH_free (i := 17) (v := undef) rfl (by kernel_rfl) (fun _ _ _ h => h) (Or.inr ⟨rfl, rfl⟩) hk6 ?_)); (simp only [Act.put, List.setIfInBounds_toArray, List.set_cons_zero, List.set_cons_succ])); ((first | (refine anyH_free (i := 18) (v := ?_) rfl (by kernel_rfl) (fun _ _ _ h => h) (Or.inl ⟨rfl, fun w' hS => ?_⟩) hk6 ?_; rotate_left; (skip; go_simp <;> with_reducible rfl)) | (refine anyH_free (i := 18) (v := undef) rfl (by kernel_rfl) (fun _ _ _ h => h) (Or.inr ⟨rfl, rfl⟩) hk6 ?_)); (simp only [Act.put, List.setIfInBounds_toArray, List.set_cons_zero, List.set_cons_succ])); ((first | (refine anyH_free (i := 19) (v := ?_) rfl (by kernel_rfl) (fun _ _ _ h => h) (Or.inl ⟨rfl, fun w' hS => ?_⟩) hk6 ?_; rotate_left; (skip; go_simp <;> with_reducible rfl)) | (refine anyH_free (i := 19) (v := undef) rfl (by kernel_rfl) (fun _ _ _ h => h) (Or.inr ⟨rfl, rfl⟩) hk6 ?_)); (simp only [Act.put, List.setIfInBounds_toArray, List.set_cons_zero, List.set_cons_succ])); ((first | (refine anyH_free (i := 20) (v := ?_) rfl (by kernel_rfl) (fun _ _ _ h => h) (Or.inl ⟨rfl, fun w' hS => ?_⟩) hk6 ?_; rotate_left; (skip; go_simp <;> with_reducible rfl)) | (refine anyH_free (i := 20) (v := undef) rfl (by kernel_rfl) (fun _ _ _ h => h) (Or.inr ⟨rfl, rfl⟩) hk6 ?_)); (simp only [Act.put, List.setIfInBounds_toArray, List.set_cons_zero, List.set_cons_succ])); ((first | (refine anyH_free (i := 21) (v := ?_) rfl (by kernel_rfl) (fun _ _ _ h => h) (Or.inl ⟨rfl, fun w' hS => ?_⟩) hk6 ?_; rotate_left; (skip; go_simp <;> with_reducible rfl)) | (refine anyH_free (i := 21) (v := undef) rfl (by kernel_rfl) (fun _ _ _ h => h) (Or.inr ⟨rfl, rfl⟩) hk6 ?_)); (simp only [Act.put, List.setIfInBounds_toArray, List.set_cons_zero, List.set_cons_succ])); ((first | (refine anyH_free (i := 22) (v := ?_) rfl (by kernel_rfl) (fun _ _ _ h => h) (Or.inl ⟨rfl, fun w' hS => ?_⟩) hk6 ?_; rotate_left; (skip; go_simp <;> with_reducible rfl)) | (refine anyH_free (i := 22) (v := undef) rfl (by kernel_rfl) (fun _ _ _ h => h) (Or.inr ⟨rfl, rfl⟩) hk6 ?_)); (simp only [Act.put, List.setIfInBounds_toArray, List.set_cons_zero, List.set_cons_succ])); ((first | (refine anyH_free (i := 23) (v := ?_) rfl (by kernel_rfl) (fun _ _ _ h => h) (Or.inl ⟨rfl, fun w' hS => ?_⟩) hk6 ?_; rotate_left; (skip; go_simp <;> with_reducible rfl)) | (refine anyH_free (i := 23) (v := undef) rfl (by kernel_rfl) (fun _ _ _ h => h) (Or.inr ⟨rfl, rfl⟩) hk6 ?_)); (simp only [Act.put, List.setIfInBounds_toArray, List.set_cons_zero, List.set_cons_succ])); ((first | (refine anyH_free (i := 24) (v := ?_) rfl (by kernel_rfl) (fun _ _ _ h => h) (Or.inl ⟨rfl, fun w' hS => ?_⟩) hk6 ?_; rotate_left; (skip; go_simp <;> with_reducible rfl)) | (refine anyH_free (i := 24) (v := undef) rfl (by kernel_rfl) (fun _ _ _ h => h) (Or.inr ⟨rfl, rfl⟩) hk6 ?_)); (simp only [Act.put, List.setIfInBounds_toArray, List.set_cons_zero, List.set_cons_succ])); ((first | (refine anyH_free (i := 25) (v := ?_) rfl (by kernel_rfl) (fun _ _ _ h => h) (Or.inl ⟨rfl, fun w' hS => ?_⟩) hk6 ?_; rotate_left; (skip; go_simp <;> with_reducible rfl)) | (refine anyH_free (i := 25) (v := undef) rfl (by kernel_rfl) (fun _ _ _ h => h) (Or.inr ⟨rfl, rfl⟩) hk6 ?_)); (simp only [Act.put, List.setIfInBounds_toArray, List.set_cons_zero, List.set_cons_succ])); ((first | (refine anyH_free (i := 26) (v := ?_) rfl (by kernel_rfl) (fun _ _ _ h => h) (Or.inl ⟨rfl, fun w' hS => ?_⟩) hk6 ?_; rotate_left; (skip; go_simp <;> with_reducible rfl)) | (refine anyH_free (i := 26) (v := undef) rfl (by kernel_rfl) (fun _ _ _ h => h) (Or.inr ⟨rfl, rfl⟩) hk6 ?_)); (simp only [Act.put, List.setIfInBounds_toArray, List.set_cons_zero, List.set_cons_succ])); ((first | (refine anyH_free (i := 27) (v := ?_) rfl (by kernel_rfl) (fun _ _ _ h => h) (Or.inl ⟨rfl, fun w' hS => ?_⟩) hk6 ?_; rotate_left; (skip; go_simp <;> with_reducible rfl)) | (refine anyH_free (i := 27) (v := undef) rfl (by kernel_rfl) (fun _ _ _ h => h) (Or.inr ⟨rfl, rfl⟩) hk6 ?_)); (simp only [Act.put, List.setIfInBounds_toArray, List.set_cons_zero, List.set_cons_succ])); ((first | (refine anyH_free (i := 28) (v := ?_) rfl (by kernel_rfl) (fun _ _ _ h => h) (Or.inl ⟨rfl, fun w' hS => ?_⟩) hk6 ?_; rotate_left; (skip; go_simp <;> with_reducible rfl)) | (refine anyH_free (i := 28) (v := undef) rfl (by kernel_rfl) (fun _ _ _ h => h) (Or.inr ⟨rfl, rfl⟩) hk6 ?_)); (simp only [Act.put, List.setIfInBounds_toArray, List.set_cons_zero, List.set_cons_succ])); ((first | (refine anyH_free (i := 29) (v := ?_) rfl (by kernel_rfl) (fun _ _ _ h => h) (Or.inl ⟨rfl, fun w' hS => ?_⟩) hk6 ?_; rotate_left; (skip; go_simp <;> with_reducible rfl)) | (refine anyH_free (i := 29) (v := undef) rfl (by kernel_rfl) (fun _ _ _ h => h) (Or.inr ⟨rfl, rfl⟩) hk6 ?_)); (simp only [Act.put, List.setIfInBounds_toArray, List.set_cons_zero, List.set_cons_succ])); ((first | (refine anyH_free (i := 30) (v := ?_) rfl (by kernel_rfl) (fun _ _ _ h => h) (Or.inl ⟨rfl, fun w' hS => ?_⟩) hk6 ?_; rotate_left; (skip; go_simp <;> with_reducible rfl)) | (refine anyH_free (i := 30) (v := undef) rfl (by kernel_rfl) (fun _ _ _ h => h) (Or.inr ⟨rfl, rfl⟩) hk6 ?_)); (simp only [Act.put, List.setIfInBounds_toArray, List.set_cons_zero, List.set_cons_succ])); ((first | (refine anyH_free (i := 31) (v := ?_) rfl (by kernel_rfl) (fun _ _ _ h => h) (Or.inl ⟨rfl, fun w' hS => ?_⟩) hk6 ?_; rotate_left; (skip; go_simp <;> with_reducible rfl)) | (refine anyH_free (i := 31) (v := undef) rfl (by kernel_rfl) (fun _ _ _ h => h) (Or.inr ⟨rfl, rfl⟩) hk6 ?_)); (simp only [Act.put, List.setIfInBounds_toArray, List.set_cons_zero, List.set_cons_succ]))
                    refine anyH_done (by kernel_rfl) ?_
                    clear e0 e1 e2 e3 g1 hk6
                    go_wp2_with fail
                    go_meet
                    case rel => exact ⟨rfl, HN6.out, HK6.out⟩
                  · have e0 : ((k : Int) == 0) = true := by rw [beq_iff_eq]; omega
                    clear n4 n5 n2
                    ((first | (refine anyH_free (i := 10) (v := ?_) rfl (by kernel_rfl) (fun _ _ _ h => h) (Or.inl ⟨rfl, fun w' hS => ?_⟩) hk6 ?_; rotate_left; (skip; go_simp <;> with_reducible rfl)) | (refine anyH_free (i := 10) (v := undef) rfl (by kernel_rfl) (fun _ _ _ h => h) (Or.inr ⟨rfl, rfl⟩) hk6 ?_)); (simp only [Act.put, List.setIfInBounds_toArray, List.set_cons_zero, List.set_cons_succ])); ((first | (refine anyH_free (i := 11) (v := ?_) rfl (by kernel_rfl) (fun _ _ _ h => h) (Or.inl ⟨rfl, fun w' hS => ?_⟩) hk6 ?_; rotate_left; (skip; go_simp <;> with_reducible rfl)) | (refine anyH_free (i := 11) (v := undef) rfl (by kernel_rfl) (fun _ _ _ h => h) (Or.inr ⟨rfl, rfl⟩) hk6 ?_)); (simp only [Act.put, List.setIfInBounds_toArray, List.set_cons_zero, List.set_cons_succ])); ((first | (refine anyH_free (i := 12) (v := ?_) rfl (by kernel_rfl) (fun _ _ _ h => h) (Or.inl ⟨rfl, fun w' hS => ?_⟩) hk6 ?_; rotate_left; (skip; go_simp <;> with_reducible rfl)) | (refine anyH_free (i := 12) (v := undef) rfl (by kernel_rfl) (fun _ _ _ h => h) (Or.inr ⟨rfl, rfl⟩) hk6 ?_)); (simp only [Act.put, List.setIfInBounds_toArray, List.set_cons_zero, List.set_cons_succ])); ((first | (refine anyH_free (i := 13) (v := ?_) rfl (by kernel_rfl) (fun _ _ _ h => h) (Or.inl ⟨rfl, fun w' hS => ?_⟩) hk6 ?_; rotate_left; (skip; go_simp <;> with_reducible rfl)) | (refine anyH_free (i := 13) (v := undef) rfl (by kernel_rfl) (fun _ _ _ h => h) (Or.inr ⟨rfl, rfl⟩) hk6 ?_)); (simp only [Act.put, List.setIfInBounds_toArray, List.set_cons_zero, List.set_cons_succ])); ((first | (refine anyH_free (i := 14) (v := ?_) rfl (by kernel_rfl) (fun _ _ _ h => h) (Or.inl ⟨rfl, fun w' hS => ?_⟩) hk6 ?_; rotate_left; (skip; go_simp <;> with_reducible rfl)) | (refine anyH_free (i := 14) (v := undef) rfl (by kernel_rfl) (fun _ _ _ h => h) (Or.inr ⟨rfl, rfl⟩) hk6 ?_)); (simp only [Act.put, List.setIfInBounds_toArray, List.set_cons_zero, List.set_cons_succ])); ((first | (refine anyH_free (i := 15) (v := ?_) rfl (by kernel_rfl) (fun _ _ _ h => h) (Or.inl ⟨rfl, fun w' hS => ?_⟩) hk6 ?_; rotate_left; (skip; go_simp <;> with_reducible rfl)) | (refine anyH_free (i := 15) (v := undef) rfl (by kernel_rfl) (fun _ _ _ h => h) (Or.inr ⟨rfl, rfl⟩) hk6 ?_)); (simp only [Act.put, List.setIfInBounds_toArray, List.set_cons_zero, List.set_cons_succ])); ((first | (refine anyH_free (i := 16) (v := ?_) rfl (by kernel_rfl) (fun _ _ _ h => h) (Or.inl ⟨rfl, fun w' hS => ?_⟩) hk6 ?_; rotate_left; (skip; go_simp <;> with_reducible rfl)) | (refine anyH_free (i := 16) (v := undef) rfl (by kernel_rfl) (fun _ _ _ h => h) (Or.inr ⟨rfl, rfl⟩) hk6 ?_)); (simp only [Act.put, List.setIfInBounds_toArray, List.set_cons_zero, List.set_cons_succ])); ((first | (refine anyH_free (i := 17) (v := ?_) rfl (by kernel_rfl) (fun _ _ _ h => h) (Or.inl ⟨rfl, fun w' hS => ?_⟩) hk6 ?_; rotate_left; (skip; go_simp <;> with_reducible rfl)) | (refine anyH_free (i := 17) (v := undef) rfl (by kernel_rfl) (fun _ _ _ h => h) (Or.inr ⟨rfl, rfl⟩) hk6 ?_)); (simp only [Act.put, List.setIfInBounds_toArray, List.set_cons_zero, List.set_cons_succ])); ((first | (refine anyH_free (i := 18) (v := ?_) rfl (by kernel_rfl) (fun _ _ _ h => h) (Or.inl ⟨rfl, fun w' hS => ?_⟩) hk6 ?_; rotate_left; (skip; go_simp <;> with_reducible rfl)) | (refine anyH_free (i := 18) (v := undef) rfl (by kernel_rfl) (fun _ _ _ h => h) (Or.inr ⟨rfl, rfl⟩) hk6 ?_)); (simp only [Act.put, List.setIfInBounds_toArray, List.set_cons_zero, List.set_cons_succ])); ((first | (refine anyH_free (i := 19) (v := ?_) rfl (by kernel_rfl) (fun _ _ _ h => h) (Or.inl ⟨rfl, fun w' hS => ?_⟩) hk6 ?_; rotate_left; (skip; go_simp <;> with_reducible rfl)) | (refine anyH_free (i := 19) (v := undef) rfl (by kernel_rfl) (fun _ _ _ h => h) (Or.inr ⟨rfl, rfl⟩) hk6 ?_)); (simp only [Act.put, List.setIfInBounds_toArray, List.set_cons_zero, List.set_cons_succ])); ((first | (refine anyH_free (i := 20) (v := ?_) rfl (by kernel_rfl) (fun _ _ _ h => h) (Or.inl ⟨rfl, fun w' hS => ?_⟩) hk6 ?_; rotate_left; (skip; go_simp <;> with_reducible rfl)) | (refine anyH_free (i := 20) (v := undef) rfl (by kernel_rfl) (fun _ _ _ h => h) (Or.inr ⟨rfl, rfl⟩) hk6 ?_)); (simp only [Act.put, List.setIfInBounds_toArray, List.set_cons_zero, List.set_cons_succ])); ((first | (refine anyH_free (i := 21) (v := ?_) rfl (by kernel_rfl) (fun _ _ _ h => h) (Or.inl ⟨rfl, fun w' hS => ?_⟩) hk6 ?_; rotate_left; (skip; go_simp <;> with_reducible rfl)) | (refine anyH_free (i := 21) (v := undef) rfl (by kernel_rfl) (fun _ _ _ h => h) (Or.inr ⟨rfl, rfl⟩) hk6 ?_)); (simp only [Act.put, List.setIfInBounds_toArray, List.set_cons_zero, List.set_cons_succ])); ((first | (refine anyH_free (i := 22) (v := ?_) rfl (by kernel_rfl) (fun _ _ _ h => h) (Or.inl ⟨rfl, fun w' hS => ?_⟩) hk6 ?_; rotate_left; (skip; go_simp <;> with_reducible rfl)) | (refine anyH_free (i := 22) (v := undef) rfl (by kernel_rfl) (fun _ _ _ h => h) (Or.inr ⟨rfl, rfl⟩) hk6 ?_)); (simp only [Act.put, List.setIfInBounds_toArray, List.set_cons_zero, List.set_cons_succ])); ((first | (refine anyH_free (i := 23) (v := ?_) rfl (by kernel_rfl) (fun _ _ _ h => h) (Or.inl ⟨rfl, fun w' hS => ?_⟩) hk6 ?_; rotate_left; (skip; go_simp <;> with_reducible rfl)) | (refine anyH_free (i := 23) (v := undef) rfl (by kernel_rfl) (fun _ _ _ h => h) (Or.inr ⟨rfl, rfl⟩) hk6 ?_)); (simp only [Act.put, List.setIfInBounds_toArray, List.set_cons_zero, List.set_cons_succ])); ((first | (refine anyH_free (i := 24) (v := ?_) rfl (by kernel_rfl) (fun _ _ _ h => h) (Or.inl ⟨rfl, fun w' hS => ?_⟩) hk6 ?_; rotate_left; (skip; go_simp <;> with_reducible rfl)) | (refine anyH_free (i := 24) (v := undef) rfl (by kernel_rfl) (fun _ _ _ h => h) (Or.inr ⟨rfl, rfl⟩) hk6 ?_)); (simp only [Act.put, List.setIfInBounds_toArray, List.set_cons_zero, List.set_cons_succ])); ((first | (refine anyH_free (i := 25) (v := ?_) rfl (by kernel_rfl) (fun _ _ _ h => h) (Or.inl ⟨rfl, fun w' hS => ?_⟩) hk6 ?_; rotate_left; (skip; go_simp <;> with_reducible rfl)) | (refine anyH_free (i := 25) (v := undef) rfl (by kernel_rfl) (fun _ _ _ h => h) (Or.inr ⟨rfl, rfl⟩) hk6 ?_)); (simp only [Act.put, List.setIfInBounds_toArray, List.set_cons_zero, List.set_cons_succ])); ((first | (refine anyH_free (i := 26) (v := ?_) rfl (by kernel_rfl) (fun _ _ _ h => h) (Or.inl ⟨rfl, fun w' hS => ?_⟩) hk6 ?_; rotate_left; (skip; go_simp <;> with_reducible rfl)) | (refine anyH_free (i := 26) (v := undef) rfl (by kernel_rfl) (fun _ _ _ h => h) (Or.inr ⟨rfl, rfl⟩) hk6 ?_)); (simp only [Act.put, List.setIfInBounds_toArray, List.set_cons_zero, List.set_cons_succ])); ((first | (refine anyH_free (i := 27) (v := ?_) rfl (by kernel_rfl) (fun _ _ _ h => h) (Or.inl ⟨rfl, fun w' hS => ?_⟩) hk6 ?_; rotate_left; (skip; go_simp <;> with_reducible rfl)) | (refine anyH_free (i := 27) (v := undef) rfl (by kernel_rfl) (fun _ _ _ h => h) (Or.inr ⟨rfl, rfl⟩) hk6 ?_)); (simp only [Act.put, List.setIfInBounds_toArray, List.set_cons_zero, List.set_cons_succ])); ((first | (refine anyH_free (i := 28) (v := ?_) rfl (by kernel_rfl) (fun _ _ _ h => h) (Or.inl ⟨rfl, fun w' hS => ?_⟩) hk6 ?_; rotate_left; (skip; go_simp <;> with_reducible rfl)) | (refine anyH_free (i := 28) (v := undef) rfl (by kernel_rfl) (fun _ _ _ h => h) (Or.inr ⟨rfl, rfl⟩) hk6 ?_)); (simp only [Act.put, List.setIfInBounds_toArray, List.set_cons_zero, List.set_cons_succ])); ((first | (refine anyH_free (i := 29) (v := ?_) rfl (by kernel_rfl) (fun _ _ _ h => h) (Or.inl ⟨rfl, fun w' hS => ?_⟩) hk6 ?_; rotate_left; (skip; go_simp <;> with_reducible rfl)) | (refine anyH_free (i := 29) (v := undef) rfl (by kernel_rfl) (fun _ _ _ h => h) (Or.inr ⟨rfl, rfl⟩) hk6 ?_)); (simp only [Act.put, List.setIfInBounds_toArray, List.set_cons_zero, List.set_cons_succ])); ((first | (refine anyH_free (i := 30) (v := ?_) rfl (by kernel_rfl) (fun _ _ _ h => h) (Or.inl ⟨rfl, fun w' hS => ?_⟩) hk6 ?_; rotate_left; (skip; go_simp <;> with_reducible rfl)) | (refine anyH_free (i := 30) (v := undef) rfl (by kernel_rfl) (fun _ _ _ h => h) (Or.inr ⟨rfl, rfl⟩) hk6 ?_)); (simp only [Act.put, List.setIfInBounds_toArray, List.set_cons_zero, List.set_cons_succ])); ((first | (refine anyH_free (i := 31) (v := ?_) rfl (by kernel_rfl) (fun _ _ _ h => h) (Or.inl ⟨rfl, fun w' hS => ?_⟩) hk6 ?_; rotate_left; (skip; go_simp <;> with_reducible rfl)) | (refine anyH_free (i := 31) (v := undef) rfl (by kernel_rfl) (fun _ _ _ h => h) (Or.inr ⟨rfl, rfl⟩) hk6 ?_)); (simp only [Act.put, List.setIfInBounds_toArray, List.set_cons_zero, List.set_cons_succ]))
                    refine anyH_done (by kernel_rfl) ?_
                    clear e0 g1 hk6
                    go_wp2_with fail
                    go_meet
                    case rel => exact ⟨rfl, HN6.out, HK6.out⟩
                  · have e0 : ((k : Int) == 0) = false := by rw [beq_eq_false_iff_ne]; omega
                    clear n4 n5 n2
                    ((first | (refine anyH_free (i := 10) (v := ?_) rfl (by kernel_rfl) (fun _ _ _ h => h) (Or.inl ⟨rfl, fun w' hS => ?_⟩) hk6 ?_; rotate_left; (skip; go_simp <;> with_reducible rfl)) | (refine anyH_free (i := 10) (v := undef) rfl (by kernel_rfl) (fun _ _ _ h => h) (Or.inr ⟨rfl, rfl⟩) hk6 ?_)); (simp only [Act.put, List.setIfInBounds_toArray, List.set_cons_zero, List.set_cons_succ])); ((first | (refine anyH_free (i := 11) (v := ?_) rfl (by kernel_rfl) (fun _ _ _ h => h) (Or.inl ⟨rfl, fun w' hS => ?_⟩) hk6 ?_; rotate_left; (skip; go_simp <;> with_reducible rfl)) | (refine anyH_free (i := 11) (v := undef) rfl (by kernel_rfl) (fun _ _ _ h => h) (Or.inr ⟨rfl, rfl⟩) hk6 ?_)); (simp only [Act.put, List.setIfInBounds_toArray, List.set_cons_zero, List.set_cons_succ])); ((first | (refine anyH_free (i := 12) (v := ?_) rfl (by kernel_rfl) (fun _ _ _ h => h) (Or.inl ⟨rfl, fun w' hS => ?_⟩) hk6 ?_; rotate_left; (skip; go_simp <;> with_reducible rfl)) | (refine anyH_free (i := 12) (v := undef) rfl (by kernel_rfl) (fun _ _ _ h => h) (Or.inr ⟨rfl, rfl⟩) hk6 ?_)); (simp only [Act.put, List.setIfInBounds_toArray, List.set_cons_zero, List.set_cons_succ])); ((first | (refine anyH_free (i := 13) (v := ?_) rfl (by kernel_rfl) (fun _ _ _ h => h) (Or.inl ⟨rfl, fun w' hS => ?_⟩) hk6 ?_; rotate_left; (skip; go_simp <;> with_reducible rfl)) | (refine anyH_free (i := 13) (v := undef) rfl (by kernel_rfl) (fun _ _ _ h => h) (Or.inr ⟨rfl, rfl⟩) hk6 ?_)); (simp only [Act.put, List.setIfInBounds_toArray, List.set_cons_zero, List.set_cons_succ])); ((first | (refine anyH_free (i := 14) (v := ?_) rfl (by kernel_rfl) (fun _ _ _ h => h) (Or.inl ⟨rfl, fun w' hS => ?_⟩) hk6 ?_; rotate_left; (skip; go_simp <;> with_reducible rfl)) | (refine anyH_free (i := 14) (v := undef) rfl (by kernel_rfl) (fun _ _ _ h => h) (Or.inr ⟨rfl, rfl⟩) hk6 ?_)); (simp only [Act.put, List.setIfInBounds_toArray, List.set_cons_zero, List.set_cons_succ])); ((first | (refine anyH_free (i := 15) (v := ?_) rfl (by kernel_rfl) (fun _ _ _ h => h) (Or.inl ⟨rfl, fun w' hS => ?_⟩) hk6 ?_; rotate_left; (skip; go_simp <;> with_reducible rfl)) | (refine anyH_free (i := 15) (v := undef) rfl (by kernel_rfl) (fun _ _ _ h => h) (Or.inr ⟨rfl, rfl⟩) hk6 ?_)); (simp only [Act.put, List.setIfInBounds_toArray, List.set_cons_zero, List.set_cons_succ])); ((first | (refine anyH_free (i := 16) (v := ?_) rfl (by kernel_rfl) (fun _ _ _ h => h) (Or.inl ⟨rfl, fun w' hS => ?_⟩) hk6 ?_; rotate_left; (skip; go_simp <;> with_reducible rfl)) | (refine anyH_free (i := 16) (v := undef) rfl (by kernel_rfl) (fun _ _ _ h => h) (Or.inr ⟨rfl, rfl⟩) hk6 ?_)); (simp only [Act.put, List.setIfInBounds_toArray, List.set_cons_zero, List.set_cons_succ])); ((first | (refine anyH_free (i := 17) (v := ?_) rfl (by kernel_rfl) (fun _ _ _ h => h) (Or.inl ⟨rfl, fun w' hS => ?_⟩) hk6 ?_; rotate_left; (skip; go_simp <;> with_reducible rfl)) | (refine anyH_free (i := 17) (v := undef) rfl (by kernel_rfl) (fun _ _ _ h => h) (Or.inr ⟨rfl, rfl⟩) hk6 ?_)); (simp only [Act.put, List.setIfInBounds_toArray, List.set_cons_zero, List.set_cons_succ])); ((first | (refine anyH_free (i := 18) (v := ?_) rfl (by kernel_rfl) (fun _ _ _ h => h) (Or.inl ⟨rfl, fun w' hS => ?_⟩) hk6 ?_; rotate_left; (skip; go_simp <;> with_reducible rfl)) | (refine anyH_free (i := 18) (v := undef) rfl (by kernel_rfl) (fun _ _ _ h => h) (Or.inr ⟨rfl, rfl⟩) hk6 ?_)); (simp only [Act.put, List.setIfInBounds_toArray, List.set_cons_zero, List.set_cons_succ])); ((first | (refine anyH_free (i := 19) (v := ?_) rfl (by kernel_rfl) (fun _ _ _ h => h) (Or.inl ⟨rfl, fun w' hS => ?_⟩) hk6 ?_; rotate_left; (skip; go_simp <;> with_reducible rfl)) | (refine anyH_free (i := 19) (v := undef) rfl (by kernel_rfl) (fun _ _ _ h => h) (Or.inr ⟨rfl, rfl⟩) hk6 ?_)); (simp only [Act.put, List.setIfInBounds_toArray, List.set_cons_zero, List.set_cons_succ])); ((first | (refine anyH_free (i := 20) (v := ?_) rfl (by kernel_rfl) (fun _ _ _ h => h) (Or.inl ⟨rfl, fun w' hS => ?_⟩) hk6 ?_; rotate_left; (skip; go_simp <;> with_reducible rfl)) | (refine anyH_free (i := 20) (v := undef) rfl (by kernel_rfl) (fun _ _ _ h => h) (Or.inr ⟨rfl, rfl⟩) hk6 ?_)); (simp only [Act.put, List.setIfInBounds_toArray, List.set_cons_zero, List.set_cons_succ])); ((first | (refine anyH_free (i := 21) (v := ?_) rfl (by kernel_rfl) (fun _ _ _ h => h) (Or.inl ⟨rfl, fun w' hS => ?_⟩) hk6 ?_; rotate_left; (skip; go_simp <;> with_reducible rfl)) | (refine anyH_free (i := 21) (v := undef) rfl (by kernel_rfl) (fun _ _ _ h => h) (Or.inr ⟨rfl, rfl⟩) hk6 ?_)); (simp only [Act.put, List.setIfInBounds_toArray, List.set_cons_zero, List.set_cons_succ])); ((first | (refine anyH_free (i := 22) (v := ?_) rfl (by kernel_rfl) (fun _ _ _ h => h) (Or.inl ⟨rfl, fun w' hS => ?_⟩) hk6 ?_; rotate_left; (skip; go_simp <;> with_reducible rfl)) | (refine anyH_free (i := 22) (v := undef) rfl (by kernel_rfl) (fun _ _ _ h => h) (Or.inr ⟨rfl, rfl⟩) hk6 ?_)); (simp only [Act.put, List.setIfInBounds_toArray, List.set_cons_zero, List.set_cons_succ])); ((first | (refine anyH_free (i := 23) (v := ?_) rfl (by kernel_rfl) (fun _ _ _ h => h) (Or.inl ⟨rfl, fun w' hS => ?_⟩) hk6 ?_; rotate_left; (skip; go_simp <;> with_reducible rfl)) | (refine anyH_free (i := 23) (v := undef) rfl (by kernel_rfl) (fun _ _ _ h => h) (Or.inr ⟨rfl, rfl⟩) hk6 ?_)); (simp only [Act.put, List.setIfInBounds_toArray, List.set_cons_zero, List.set_cons_succ])); ((first | (refine anyH_free (i := 24) (v := ?_) rfl (by kernel_rfl) (fun _ _ _ h => h) (Or.inl ⟨rfl, fun w' hS => ?_⟩) hk6 ?_; rotate_left; (skip; go_simp <;> with_reducible rfl)) | (refine anyH_free (i := 24) (v := undef) rfl (by kernel_rfl) (fun _ _ _ h => h) (Or.inr ⟨rfl, rfl⟩) hk6 ?_)); (simp only [Act.put, List.setIfInBounds_toArray, List.set_cons_zero, List.set_cons_succ])); ((first | (refine anyH_free (i := 25) (v := ?_) rfl (by kernel_rfl) (fun _ _ _ h => h) (Or.inl ⟨rfl, fun w' hS => ?_⟩) hk6 ?_; rotate_left; (skip; go_simp <;> with_reducible rfl)) | (refine anyH_free (i := 25) (v := undef) rfl (by kernel_rfl) (fun _ _ _ h => h) (Or.inr ⟨rfl, rfl⟩) hk6 ?_)); (simp only [Act.put, List.setIfInBounds_toArray, List.set_cons_zero, List.set_cons_succ])); ((first | (refine anyH_free (i := 26) (v := ?_) rfl (by kernel_rfl) (fun _ _ _ h => h) (Or.inl ⟨rfl, fun w' hS => ?_⟩) hk6 ?_; rotate_left; (skip; go_simp <;> with_reducible rfl)) | (refine anyH_free (i := 26) (v := undef) rfl (by kernel_rfl) (fun _ _ _ h => h) (Or.inr ⟨rfl, rfl⟩) hk6 ?_)); (simp only [Act.put, List.setIfInBounds_toArray, List.set_cons_zero, List.set_cons_succ])); ((first | (refine anyH_free (i := 27) (v := ?_) rfl (by kernel_rfl) (fun _ _ _ h => h) (Or.inl ⟨rfl, fun w' hS => ?_⟩) hk6 ?_; rotate_left; (skip; go_simp <;> with_reducible rfl)) | (refine anyH_free (i := 27) (v := undef) rfl (by kernel_rfl) (fun _ _ _ h => h) (Or.inr ⟨rfl, rfl⟩) hk6 ?_)); (simp only [Act.put, List.setIfInBounds_toArray, List.set_cons_zero, List.set_cons_succ])); ((first | (refine anyH_free (i := 28) (v := ?_) rfl (by kernel_rfl) (fun _ _ _ h => h) (Or.inl ⟨rfl, fun w' hS => ?_⟩) hk6 ?_; rotate_left; (skip; go_simp <;> with_reducible rfl)) | (refine anyH_free (i := 28) (v := undef) rfl (by kernel_rfl) (fun _ _ _ h => h) (Or.inr ⟨rfl, rfl⟩) hk6 ?_)); (simp only [Act.put, List.setIfInBounds_toArray, List.set_cons_zero, List.set_cons_succ])); ((first | (refine anyH_free (i := 29) (v := ?_) rfl (by kernel_rfl) (fun _ _ _ h => h) (Or.inl ⟨rfl, fun w' hS => ?_⟩) hk6 ?_; rotate_left; (skip; go_simp <;> with_reducible rfl)) | (refine anyH_free (i := 29) (v := undef) rfl (by kernel_rfl) (fun _ _ _ h => h) (Or.inr ⟨rfl, rfl⟩) hk6 ?_)); (simp only [Act.put, List.setIfInBounds_toArray, List.set_cons_zero, List.set_cons_succ])); ((first | (refine anyH_free (i := 30) (v := ?_) rfl (by kernel_rfl) (fun _ _ _ h => h) (Or.inl ⟨rfl, fun w' hS => ?_⟩) hk6 ?_; rotate_left; (skip; go_simp <;> with_reducible rfl)) | (refine anyH_free (i := 30) (v := undef) rfl (by kernel_rfl) (fun _ _ _ h => h) (Or.inr ⟨rfl, rfl⟩) hk6 ?_)); (simp only [Act.put, List.setIfInBounds_toArray, List.set_cons_zero, List.set_cons_succ])); ((first | (refine anyH_free (i := 31) (v := ?_) rfl (by kernel_rfl) (fun _ _ _ h => h) (Or.inl ⟨rfl, fun w' hS => ?_⟩) hk6 ?_; rotate_left; (skip; go_simp <;> with_reducible rfl)) | (refine anyH_free (i := 31) (v := undef) rfl (by kernel_rfl) (fun _ _ _ h => h) (Or.inr ⟨rfl, rfl⟩) hk6 ?_)); (simp only [Act.put, List.setIfInBounds_toArray, List.set_cons_zero, List.set_cons_succ]))
                    refine anyH_done (by kernel_rfl) ?_
                    clear e0 g1 hk6
                    go_wp2_with fail
                    go_meet
                    case rel => exact ⟨rfl, HN6.out, HK6.out⟩
              case rest =>
                obtain ⟨rfl, hN3, hK3⟩ := hcut
                obtain ⟨W3, hW3⟩ : ∃ W3, W3 = wc := ⟨_, rfl⟩
                rw [← hW3] at hN3 hK3 ⊢
                have HN3 := Lib.hid hN3
                have HK3 := Lib.hid hK3
                have HXB3 := Lib.hid (HX1.out.kept hK3 (fun h => h HX1.out.lt))
                clear hW3 hN3 hK3 HXB2 HN2 HK2
                obtain ⟨ls, hls⟩ : ∃ ls, (if n = 0 then last else (a : Int) + k) = ls := ⟨_, rfl⟩
                rw [hls] at HS2
                have HLS := Lib.hid hls
                clear hls n4 n5
                go_upto_if 149 with fail
                go_cut [12] (fun lv wx => lv = .int .i64 ls ∧ wx = W3)
                case first =>
                  rcases (by omega : n = 0 ∨ n = 1) with rfl | rfl
                  · have hl0 : last = ls := by have := HLS.out; rwa [if_pos rfl] at this
                    clear n2
                    go_wp2_with fail
                    go_meet
                    case rel => exact ⟨by rw [← hl0], rfl⟩
                  · have hl0 : (a : Int) + k = ls := by have := HLS.out; rwa [if_neg (by omega)] at this
                    have HL0 := Lib.hid hl0
                    clear n2 hl0
                    go_wp2_with fail
                    go_meet
                    case rel => exact ⟨by rw [HL0.out], rfl⟩
                case rest =>
                  obtain ⟨rfl, hwc⟩ := hcut
                  rw [hwc]
                  clear hwc
                  have hmp : minB ((a : Int) + k + 1000) = true := by unfold minB; simp; omega
                  obtain ⟨a1, a2, a3⟩ := HS2.out.gone hmp
                  have A1 := Lib.hid a1
                  have A2 := Lib.hid a2
                  have A3 := Lib.hid a3
                  clear hmp a1 a2 a3 n2
                  by_cases hack : (k : Int) = ack
                  · have hackb : ((k : Int) == ack) = true := by rw [beq_iff_eq]; exact hack
                    clear hack
                    have HWJ : Hid (IntKind.i64.wrap ((a : Int) + k + 1000) = (a : Int) + k + 1000) := Lib.hid (IntWalk.i64_in _ ⟨by omega, by omega⟩)
                    go_wp2_with fail
                    refine anyH_start 18 (fun w' => Kept (fun b => ¬ b < w1.heap.size) W3 w') (by kernel_rfl) rfl ?_
                    have hb1 : Below W3.heap.size W3 W3.drew := (Below.refl _ W3).drew
                    have hb0 : Kept (fun b => ¬ b < w1.heap.size) W3 W3.drew := kept_of_below hb1
                    ((first | (refine anyH_free (i := 0) (v := ?_) rfl (by kernel_rfl) (fun _ _ _ h => h) (Or.inl ⟨rfl, fun w' hS => ?_⟩) hb0 ?_; rotate_left; (have d0 := (HXB3.out.kept hS (fun h => h HX1.out.lt)).rd.1; go_simp <;> with_reducible rfl)) | (refine anyH_free (i := 0) (v := undef) rfl (by kernel_rfl) (fun _ _ _ h => h) (Or.inr ⟨rfl, rfl⟩) hb0 ?_)); (simp only [Act.put, List.setIfInBounds_toArray, List.set_cons_zero, List.set_cons_succ])); ((first | (refine anyH_free (i := 1) (v := ?_) rfl (by kernel_rfl) (fun _ _ _ h => h) (Or.inl ⟨rfl, fun w' hS => ?_⟩) hb0 ?_; rotate_left; (have d0 := (HXB3.out.kept hS (fun h => h HX1.out.lt)).rd.1; go_simp <;> with_reducible rfl)) | (refine anyH_free (i := 1) (v := undef) rfl (by kernel_rfl) (fun _ _ _ h => h) (Or.inr ⟨rfl, rfl⟩) hb0 ?_)); (simp only [Act.put, List.setIfInBounds_toArray, List.set_cons_zero, List.set_cons_succ])); ((first | (refine anyH_free (i := 2) (v := ?_) rfl (by kernel_rfl) (fun _ _ _ h => h) (Or.inl ⟨rfl, fun w' hS => ?_⟩) hb0 ?_; rotate_left; (have d0 := (HXB3.out.kept hS (fun h => h HX1.out.lt)).rd.1; go_simp <;> with_reducible rfl)) | (refine anyH_free (i := 2) (v := undef) rfl (by kernel_rfl) (fun _ _ _ h => h) (Or.inr ⟨rfl, rfl⟩) hb0 ?_)); (simp only [Act.put, List.setIfInBounds_toArray, List.set_cons_zero, List.set_cons_succ])); ((first | (refine anyH_free (i := 3) (v := ?_) rfl (by kernel_rfl) (fun _ _ _ h => h) (Or.inl ⟨rfl, fun w' hS => ?_⟩) hb0 ?_; rotate_left; (have d0 := (HXB3.out.kept hS (fun h => h HX1.out.lt)).rd.1; go_simp <;> with_reducible rfl)) | (refine anyH_free (i := 3) (v := undef) rfl (by kernel_rfl) (fun _ _ _ h => h) (Or.inr ⟨rfl, rfl⟩) hb0 ?_)); (simp only [Act.put, List.setIfInBounds_toArray, List.set_cons_zero, List.set_cons_succ])); ((first | (refine anyH_free (i := 4) (v := ?_) rfl (by kernel_rfl) (fun _ _ _ h => h) (Or.inl ⟨rfl, fun w' hS => ?_⟩) hb0 ?_; rotate_left; (have d0 := (HXB3.out.kept hS (fun h => h HX1.out.lt)).rd.1; go_simp <;> with_reducible rfl)) | (refine anyH_free (i := 4) (v := undef) rfl (by kernel_rfl) (fun _ _ _ h => h) (Or.inr ⟨rfl, rfl⟩) hb0 ?_)); (simp only [Act.put, List.setIfInBounds_toArray, List.set_cons_zero, List.set_cons_succ]))
                    refine anyH_sole (i := 5) rfl (by kernel_rfl) rfl (fun K hK => ?_)
                    go_simp
                    refine (ack_m (r := m.rule) (i := m.at_) (HN3.out.below hb1) (by have := HG3.out.len; omega)).mono ?_
                    rintro e w4 ⟨rfl, hN4, hk4⟩
                    rw [A1.out]
                    have hk5 := hb0.trans hk4 (fun _ _ x => x) (fun _ _ x => x)
                    refine hK _ _ hk5 ?_
                    clear hK K
                    ((first | (refine anyH_free (i := 6) (v := ?_) rfl (by kernel_rfl) (fun _ _ _ h => h) (Or.inl ⟨rfl, fun w' hS => ?_⟩) hk5 ?_; rotate_left; (have d0 := (HXB3.out.kept hS (fun h => h HX1.out.lt)).rd.1; go_simp <;> with_reducible rfl)) | (refine anyH_free (i := 6) (v := undef) rfl (by kernel_rfl) (fun _ _ _ h => h) (Or.inr ⟨rfl, rfl⟩) hk5 ?_)); (simp only [Act.put, List.setIfInBounds_toArray, List.set_cons_zero, List.set_cons_succ])); ((first | (refine anyH_free (i := 7) (v := ?_) rfl (by kernel_rfl) (fun _ _ _ h => h) (Or.inl ⟨rfl, fun w' hS => ?_⟩) hk5 ?_; rotate_left; (have d0 := (HXB3.out.kept hS (fun h => h HX1.out.lt)).rd.1; go_simp <;> with_reducible rfl)) | (refine anyH_free (i := 7) (v := undef) rfl (by kernel_rfl) (fun _ _ _ h => h) (Or.inr ⟨rfl, rfl⟩) hk5 ?_)); (simp only [Act.put, List.setIfInBounds_toArray, List.set_cons_zero, List.set_cons_succ])); ((first | (refine anyH_free (i := 8) (v := ?_) rfl (by kernel_rfl) (fun _ _ _ h => h) (Or.inl ⟨rfl, fun w' hS => ?_⟩) hk5 ?_; rotate_left; (have d0 := (HXB3.out.kept hS (fun h => h HX1.out.lt)).rd.1; go_simp <;> with_reducible rfl)) | (refine anyH_free (i := 8) (v := undef) rfl (by kernel_rfl) (fun _ _ _ h => h) (Or.inr ⟨rfl, rfl⟩) hk5 ?_)); (simp only [Act.put, List.setIfInBounds_toArray, List.set_cons_zero, List.set_cons_succ])); ((first | (refine anyH_free (i := 9) (v := ?_) rfl (by kernel_rfl) (fun _ _ _ h => h) (Or.inl ⟨rfl, fun w' hS => ?_⟩) hk5 ?_; rotate_left; (have d0 := (HXB3.out.kept hS (fun h => h HX1.out.lt)).rd.1; go_simp <;> with_reducible rfl)) | (refine anyH_free (i := 9) (v := undef) rfl (by kernel_rfl) (fun _ _ _ h => h) (Or.inr ⟨rfl, rfl⟩) hk5 ?_)); (simp only [Act.put, List.setIfInBounds_toArray, List.set_cons_zero, List.set_cons_succ])); ((first | (refine anyH_free (i := 10) (v := ?_) rfl (by kernel_rfl) (fun _ _ _ h => h) (Or.inl ⟨rfl, fun w' hS => ?_⟩) hk5 ?_; rotate_left; (have d0 := (HXB3.out.kept hS (fun h => h HX1.out.lt)).rd.1; go_simp <;> with_reducible rfl)) | (refine anyH_free (i := 10) (v := undef) rfl (by kernel_rfl) (fun _ _ _ h => h) (Or.inr ⟨rfl, rfl⟩) hk5 ?_)); (simp only [Act.put, List.setIfInBounds_toArray, List.set_cons_zero, List.set_cons_succ])); ((first | (refine anyH_free (i := 11) (v := ?_) rfl (by kernel_rfl) (fun _ _ _ h => h) (Or.inl ⟨rfl, fun w' hS => ?_⟩) hk5 ?_; rotate_left; (have d0 := (HXB3.out.kept hS (fun h => h HX1.out.lt)).rd.1; go_simp <;> with_reducible rfl)) | (refine anyH_free (i := 11) (v := undef) rfl (by kernel_rfl) (fun _ _ _ h => h) (Or.inr ⟨rfl, rfl⟩) hk5 ?_)); (simp only [Act.put, List.setIfInBounds_toArray, List.set_cons_zero, List.set_cons_succ])); ((first | (refine anyH_free (i := 12) (v := ?_) rfl (by kernel_rfl) (fun _ _ _ h => h) (Or.inl ⟨rfl, fun w' hS => ?_⟩) hk5 ?_; rotate_left; (have d0 := (HXB3.out.kept hS (fun h => h HX1.out.lt)).rd.1; go_simp <;> with_reducible rfl)) | (refine anyH_free (i := 12) (v := undef) rfl (by kernel_rfl) (fun _ _ _ h => h) (Or.inr ⟨rfl, rfl⟩) hk5 ?_)); (simp only [Act.put, List.setIfInBounds_toArray, List.set_cons_zero, List.set_cons_succ])); ((first | (refine anyH_free (i := 14) (v := ?_) rfl (by kernel_rfl) (fun _ _ _ h => h) (Or.inl ⟨rfl, fun w' hS => ?_⟩) hk5 ?_; rotate_left; (have d0 := (HXB3.out.kept hS (fun h => h HX1.out.lt)).rd.1; go_simp <;> with_reducible rfl)) | (refine anyH_free (i := 14) (v := undef) rfl (by kernel_rfl) (fun _ _ _ h => h) (Or.inr ⟨rfl, rfl⟩) hk5 ?_)); (simp only [Act.put, List.setIfInBounds_toArray, List.set_cons_zero, List.set_cons_succ]))
                    refine anyH_sole (i := 13) rfl (by kernel_rfl) rfl (fun K hK => ?_)
                    go_simp
                    rw [HWI.out, HWJ.out]
                    refine (pump_m (at_ := (a : Int) + k + 1000) hN4 (by have := A3.out.len; omega) A3.out.few (A3.out.ok (by omega))).mono ?_
                    rintro e w5 ⟨v4, os, rfl, hos, hR, hN5, hk6⟩
                    obtain ⟨pv, cv, rfl⟩ := owns_slice hR.own
                    have hk7 := hk5.trans hk6 (fun _ _ x => x) (fun _ _ x => x)
                    refine hK _ _ hk7 ?_
                    clear hK K
                    refine anyH_sole (i := 15) rfl (by kernel_rfl) rfl (fun K hK => ?_)
                    go_simp
                    have hol : os.length ≤ 1000 := by
                      rw [← List.length_map (f := Mr.m), hos]
                      have := A3.out.len
                      unfold sendO pumpO
                      split
                      · rw [List.length_map]
                        exact Nat.le_trans (List.length_filter_le _ _) (by omega)
                      · simp
                    refine (mine_any (r := ⟨.slice q1 m.ks.length d1, .slice q2 m.ss.length d2, m⟩) (Sl.owned encM_len hR.own) hol).mono ?_
                    rintro e w6 ⟨rfl, hb⟩
                    have hk8 := hk7.later hb
                    have HK8 := Lib.hid (HK3.out.trans hk8 (fun _ _ x => x) (fun _ _ x => x))
                    refine hK _ _ hk8 ?_
                    clear hK K
                    rw [hos]
                    simp only [A2.out]
                    ((first | (refine anyH_free (i := 16) (v := ?_) rfl (by kernel_rfl) (fun _ _ _ h => h) (Or.inl ⟨rfl, fun w' hS => ?_⟩) hk8 ?_; rotate_left; (skip; go_simp <;> with_reducible rfl)) | (refine anyH_free (i := 16) (v := undef) rfl (by kernel_rfl) (fun _ _ _ h => h) (Or.inr ⟨rfl, rfl⟩) hk8 ?_)); (simp only [Act.put, List.setIfInBounds_toArray, List.set_cons_zero, List.set_cons_succ])); ((first | (refine anyH_free (i := 17) (v := ?_) rfl (by kernel_rfl) (fun _ _ _ h => h) (Or.inl ⟨rfl, fun w' hS => ?_⟩) hk8 ?_; rotate_left; (skip; go_simp <;> with_reducible rfl)) | (refine anyH_free (i := 17) (v := undef) rfl (by kernel_rfl) (fun _ _ _ h => h) (Or.inr ⟨rfl, rfl⟩) hk8 ?_)); (simp only [Act.put, List.setIfInBounds_toArray, List.set_cons_zero, List.set_cons_succ]))
                    refine anyH_done (by kernel_rfl) ?_
                    clear hos hR hN4 hk4 hk5 hN5 hk6 hk7 hk8 hb hb0 hb1 hol
                    go_wp2_with fail
                    refine (awake_any _).mono ?_
                    rintro e w7 ⟨rfl, hb⟩
                    have HB7 := Lib.hid (HB1.out.trans (((HK8.out.below (fun b h => Nat.le_of_not_lt h) (Nat.le_refl _)).trans (hb.mono HK8.out.size)).mono HB1.out.size))
                    clear hb
                    go_wp2_with fail
                    go_ret
                    exact ⟨rfl, HB7.out⟩
                  · have hackb : ((k : Int) == ack) = false := by rw [beq_eq_false_iff_ne]; exact hack
                    clear hack
                    go_wp2_with fail
                    exact ⟨⟨k + 1, ls, _, by simp, rfl, by omega, HS2.out, HN3.out, HK3.out⟩, by simp [intOf]; omega⟩
      · as_aux_lemma =>
          obtain rfl : k = mn := by omega
          have HXB := Lib.hid (HX1.out.kept HK.out (fun h => h HX1.out.lt))
          have HG := Lib.hid HSI2.out.g
          have hone : ((xs.filter (isM m.rule m.at_)).length) = 1 := by
            obtain ⟨y, hy, _⟩ := HSI2.out.one
            rw [hy]
            rfl
          have HON := Lib.hid hone
          clear hone
          go_wp2_with fail
          refine (all_m HN.out HG.out.few (by have := HG.out.len; omega)).mono ?_
          rintro e w4 ⟨v4, rs, rfl, hrs, hR, hb⟩
          obtain ⟨pv, cv, rfl⟩ := owns_slice hR.own
          have hrl : rs.length ≤ 6 := by rw [← List.length_map (f := Ow.pl), hrs]; exact HG.out.len
          have HRS : Hid (cnt (rs.map (fun o => o.m.m)) m.rule m.at_ = 1) := Lib.hid (by
            rw [← HON.out, ← hrs]
            unfold cnt
            rw [List.filter_map, List.filter_map, List.length_map, List.length_map]
            rfl)
          have HSL := Lib.hid (Sl.owned encO_len hR.own)
          have HX4 := Lib.hid (HXB.out.below hb)
          have HK4 := Lib.hid (HK.out.later hb)
          clear hrs hR hb HXB
          go_wp2_with fail
          go_loopw [15, 17] (fun n_ iv_ wr2 => ∃ j : Nat, iv_ = .int .i64 j ∧ n_ = .int .i64 (cnt ((rs.take j).map (fun o => o.m.m)) m.rule m.at_) ∧ j ≤ rs.length ∧ Below w4.heap.size w4 wr2) (fun _ iv_ _ => rs.length - (intOf iv_).toNat)
          · exact ⟨0, rfl, rfl, by omega, Below.refl _ _⟩
          obtain ⟨j, rfl, rfl, hj, hB5⟩ := hrel
          have HB5 := Lib.hid hB5
          have HX5 := Lib.hid (HX4.out.below hB5)
          have hcl : cnt ((rs.take j).map (fun o => o.m.m)) m.rule m.at_ ≤ j := by
            unfold cnt
            refine Nat.le_trans (List.length_filter_le _ _) ?_
            rw [List.length_map, List.length_take]
            omega
          clear hB5
          by_cases hjl : j < rs.length
          · obtain ⟨⟨⟨kv2, sv2, m2⟩, tr2, nx2⟩, hx⟩ : ∃ x, rs[j]? = some x := ⟨_, List.getElem?_eq_getElem hjl⟩
            obtain ⟨ad, rfl, -, -, hrow⟩ := (HSL.out.below HB5.out).at hx
            have x0 := hrow j _ hx 0 _ rfl
            rw [Addr.add_zero'] at x0
            have x2 : wr.cell? ⟨(ad.add (j * 7)).block, (ad.add (j * 7)).off + 2, none⟩ = some (.int .i64 m2.at_) := hrow j _ hx 2 _ rfl
            simp only at x0
            have hjj : (j : Int) < (rs.length : Int) := by omega
            have HCS : Hid (cnt ((rs.take (j + 1)).map (fun o => o.m.m)) m.rule m.at_ = cnt ((rs.take j).map (fun o => o.m.m)) m.rule m.at_ + if keyM m.rule m.at_ m2 then 1 else 0) := Lib.hid (by
              rw [take_snoc' hx, List.map_append]
              exact cnt_snoc _ _ _ _)
            obtain ⟨N, hN⟩ : ∃ N, cnt ((rs.take j).map (fun o => o.m.m)) m.rule m.at_ = N := ⟨_, rfl⟩
            rw [hN] at hcl HCS ⊢
            clear hrow hx hN
            by_cases h1 : m2.rule = m.rule
            · by_cases h2 : m2.at_ = m.at_
              · have hr1 : (m2.rule == m.rule) = true := by rw [beq_iff_eq]; exact h1
                have hr2 : (m2.at_ == m.at_) = true := by rw [beq_iff_eq]; exact h2
                have HKF : Hid (keyM m.rule m.at_ m2 = true) := Lib.hid (by unfold keyM; simp [h1, h2])
                clear h1 h2
                go_wp2_with fail
                refine wp_region_ordH [0, 1, 2, 3, 4, 5, 6, 7, 8, 9, 10, 11, 12, 13, 14, 15, 16, 17, 18, 19] (fun w' => Below wr.heap.size wr w') (by kernel_rfl) (by kernel_rfl) ?_
                have hb0 : Below wr.heap.size wr wr.drew := (Below.refl _ wr).drew
                iterate 20 ((first | (refine ordH_free (v := ?_) rfl (by kernel_rfl) (fun _ _ _ h => h) (Or.inl ⟨rfl, fun w' hS => ?_⟩) hb0 ?_; rotate_left; (have x0 := cell_below x0 hS; have x2 := cell_below x2 hS; have d0 := (HX5.out.below hS).rd.1; go_simp <;> with_reducible rfl)) | (refine ordH_free (v := undef) rfl (by kernel_rfl) (fun _ _ _ h => h) (Or.inr ⟨rfl, rfl⟩) hb0 ?_)); (simp only [Act.put, List.setIfInBounds_toArray, List.set_cons_zero, List.set_cons_succ]))
                refine ⟨by kernel_rfl, ?_⟩
                have HB6 := Lib.hid (below_then HB5.out hb0)
                clear x0 x2 hb0
                go_wp2_with fail
                exact ⟨⟨j + 1, by simp, by rw [HCS.out, HKF.out]; rfl, by omega, HB6.out⟩, by simp [intOf]; omega⟩
              · have hr1 : (m2.rule == m.rule) = true := by rw [beq_iff_eq]; exact h1
                have hr2 : (m2.at_ == m.at_) = false := by rw [beq_eq_false_iff_ne]; exact h2
                have HKF : Hid (keyM m.rule m.at_ m2 = false) := Lib.hid (by unfold keyM; simp [h2])
                clear h1 h2
                go_wp2_with fail
                refine wp_region_ordH [0, 1, 2, 3, 4, 5, 6, 7, 8, 9, 10, 11, 12, 13, 14, 15, 16, 17, 18, 19] (fun w' => Below wr.heap.size wr w') (by kernel_rfl) (by kernel_rfl) ?_
                have hb0 : Below wr.heap.size wr wr.drew := (Below.refl _ wr).drew
                iterate 20 ((first | (refine ordH_free (v := ?_) rfl (by kernel_rfl) (fun _ _ _ h => h) (Or.inl ⟨rfl, fun w' hS => ?_⟩) hb0 ?_; rotate_left; (have x0 := cell_below x0 hS; have x2 := cell_below x2 hS; have d0 := (HX5.out.below hS).rd.1; go_simp <;> with_reducible rfl)) | (refine ordH_free (v := undef) rfl (by kernel_rfl) (fun _ _ _ h => h) (Or.inr ⟨rfl, rfl⟩) hb0 ?_)); (simp only [Act.put, List.setIfInBounds_toArray, List.set_cons_zero, List.set_cons_succ]))
                refine ⟨by kernel_rfl, ?_⟩
                have HB6 := Lib.hid (below_then HB5.out hb0)
                clear x0 x2 hb0
                go_wp2_with fail
                exact ⟨⟨j + 1, by simp, by rw [HCS.out, HKF.out]; rfl, by omega, HB6.out⟩, by simp [intOf]; omega⟩
            · have hr1 : (m2.rule == m.rule) = false := by rw [beq_eq_false_iff_ne]; exact h1
              have HKF : Hid (keyM m.rule m.at_ m2 = false) := Lib.hid (by unfold keyM; simp [h1])
              clear h1
              go_wp2_with fail
              refine wp_region_ordH [0, 1, 2, 3, 4, 5, 6, 7, 8, 9, 10, 11, 12, 13, 14, 15, 16, 17, 18, 19] (fun w' => Below wr.heap.size wr w') (by kernel_rfl) (by kernel_rfl) ?_
              have hb0 : Below wr.heap.size wr wr.drew := (Below.refl _ wr).drew
              iterate 20 ((first | (refine ordH_free (v := ?_) rfl (by kernel_rfl) (fun _ _ _ h => h) (Or.inl ⟨rfl, fun w' hS => ?_⟩) hb0 ?_; rotate_left; (have x0 := cell_below x0 hS; have x2 := cell_below x2 hS; have d0 := (HX5.out.below hS).rd.1; go_simp <;> with_reducible rfl)) | (refine ordH_free (v := undef) rfl (by kernel_rfl) (fun _ _ _ h => h) (Or.inr ⟨rfl, rfl⟩) hb0 ?_)); (simp only [Act.put, List.setIfInBounds_toArray, List.set_cons_zero, List.set_cons_succ]))
              refine ⟨by kernel_rfl, ?_⟩
              have HB6 := Lib.hid (below_then HB5.out hb0)
              clear x0 x2 hb0
              go_wp2_with fail
              exact ⟨⟨j + 1, by simp, by rw [HCS.out, HKF.out]; rfl, by omega, HB6.out⟩, by simp [intOf]; omega⟩
          · obtain rfl : j = rs.length := by omega
            have hfin : cnt ((rs.take rs.length).map (fun o => o.m.m)) m.rule m.at_ = 1 := by rw [List.take_length]; exact HRS.out
            rw [hfin]
            clear hcl hfin
            go_wp2_with fail
            refine (awake_any _).mono ?_
            rintro e w7 ⟨rfl, hb⟩
            have HB7 := Lib.hid (HB1.out.trans ((((HK4.out.below (fun b h => Nat.le_of_not_lt h) (Nat.le_refl _)).trans (HB5.out.mono HK4.out.size)).trans (hb.mono (Nat.le_trans HK4.out.size HB5.out.size))).mono HB1.out.size))
            clear hb
            go_wp2_with fail
            go_ret
            exact ⟨rfl, HB7.out⟩
    · have hbig' : 100 < (m.ks.length : Int) + (m.ss.length : Int) := by omega
      clear hbig
      go_wp2_with fail
      refine (awake_any _).mono ?_
      rintro e w2 ⟨rfl, hb⟩
      have HB2 := Lib.hid (HB1.out.trans (hb.mono HB1.out.size))
      clear hb
      go_wp2_with fail
      go_ret
      exact ⟨rfl, HB2.out⟩
end Go.Proofs.Ytfaafndaelmbfaa
