/- OweFires' walk (under way) -/
import Derived.Test.YtajflljemfgkiaaEAwk
import Derived.Test.YtajflljemfgkiaaEPln
namespace Go.Proofs.Ytajflljemfgkiaa
open Go.RowKit Mut
attribute [local go_sem] Oper.semAt_some
set_option maxRecDepth 100000 in
set_option maxHeartbeats 4000000 in
theorem oweFires_any {R : Rl} {at_ : Int} {v1 v2 : Value} {ms : List MuteD} {l : List Al} {w : World} (hr : Ro (fun _ => True) w R) (h1 : Sl (fun _ => True) w v1 10 encU ms) (h2 : Sl (fun _ => True) w v2 5 encA l) (_ : (Lit.int .i64 at_).wf = true) :
    Calls Try.prog 7 #[rv R, v1, v2, .int .i64 at_] w (Tells (.bool true) w) := by
  have hnv := hr.n
  have hmv := hr.m.oneCell
  have hb0 : Below w.heap.size w (w.alloc (.cells (rc R) 25)) := (Below.refl _ w).alloc (Nat.le_refl _) _
  have b4 := Box.new w (rc R) 25
  have hr0 : Ro (fun _ => True) (w.alloc (.cells (rc R) 25)) R := ⟨hr.m.below hb0, hr.n⟩
  have H1 := Lib.hid (h1.below hb0)
  have H2 := Lib.hid (h2.below hb0)
  obtain ⟨p1, c1, rfl, -, -⟩ := h1.len
  obtain ⟨p2, c2, rfl, -, -⟩ := h2.len
  obtain ⟨W0, hW0⟩ : ∃ W0, (w.alloc (.cells (rc R) 25)) = W0 := ⟨_, rfl⟩
  rw [hW0] at hb0 b4 H1 H2 hr0
  have HW0 := Lib.hid hW0
  have HB0 := Lib.hid hb0
  have H4 := Lib.hid b4
  have HR := Lib.hid hr0
  obtain ⟨nm, by0, nv, fr, ev, rp, mvv, mu, rt⟩ := R
  simp only at hnv hmv
  have c4 := b4.rd.1
  clear hr h1 h2 hb0 b4 hr0 hW0
  go_enter Try.func7, Try.ntmps7
  go_wp2_with fail
  rw [HW0.out]
  refine (awake_any W0).mono ?_
  rintro e wa ⟨rfl, hb⟩
  have HBA := Lib.hid (HB0.out.trans (hb.mono HB0.out.size))
  have H1A := Lib.hid (H1.out.below hb)
  have H2A := Lib.hid (H2.out.below hb)
  have H4A := Lib.hid (H4.out.below hb)
  have HRA : Hid (Ro (fun _ => True) wa ⟨nm, by0, nv, fr, ev, rp, mvv, mu, rt⟩) := Lib.hid ⟨HR.out.m.below hb, HR.out.n⟩
  have HGR := Lib.hid (great_any (keys := []) (v4 := .slice none 0 0) HRA.out H1A.out H2A.out (Sl.nil (fun _ => True) wa))
  clear hb c4 H1 H2 H4 HR HB0
  have c4 := H4A.out.rd.1
  go_wp2_with fail
  refine HGR.out.mono ?_
  rintro e w1 ⟨bg, rfl, hbg, hb⟩
  have HB1 := Lib.hid (HBA.out.trans (hb.mono HBA.out.size))
  cases bg with
  | true =>
    clear hbg hb c4
    go_wp2_with fail
    go_ret
    exact ⟨rfl, HB1.out⟩
  | false =>
    obtain ⟨⟨g1, -, g3, g4⟩, g5, -, -, -⟩ := hbg rfl
    simp only at g4
    have H11 := Lib.hid (H1A.out.below hb)
    have H21 := Lib.hid (H2A.out.below hb)
    have H41 := Lib.hid (H4A.out.below hb)
    have HR1 : Hid (Ro (fun _ => True) w1 ⟨nm, by0, nv, fr, ev, rp, mvv, mu, rt⟩) := Lib.hid ⟨HRA.out.m.below hb, HRA.out.n⟩
    have HS1 : Hid (∀ x ∈ l, x.by_.size ≤ maxLen) := Lib.hid fun x hx => by have := g5 x hx; unfold maxLen; omega
    have HNE := Lib.hid (near_any (R := ⟨nm, by0, nv, fr, ev, rp, mvv, mu, rt⟩) (at_ := at_) H21.out (by omega) hnv hmv)
    clear hbg hb g5 HGR H1A H2A H4A HRA c4
    have c4 := H41.out.rd.1
    go_wp2_with fail
    refine HNE.out.mono ?_
    rintro e w2 ⟨bn, rfl, hbn, hb⟩
    have HB2 := Lib.hid (HB1.out.trans (hb.mono HB1.out.size))
    cases bn with
    | false =>
      clear hbn hb c4
      go_wp2_with fail
      go_ret
      exact ⟨rfl, HB2.out⟩
    | true =>
      have HNP := Lib.hid (hbn rfl)
      have H12 := Lib.hid (H11.out.below hb)
      have H22 := Lib.hid (H21.out.below hb)
      have H42 := Lib.hid (H41.out.below hb)
      have HR2 : Hid (Ro (fun _ => True) w2 ⟨nm, by0, nv, fr, ev, rp, mvv, mu, rt⟩) := Lib.hid ⟨HR1.out.m.below hb, HR1.out.n⟩
      have HDU := Lib.hid (due_any HR2.out H12.out H22.out (by omega) (by simp only; omega) (by omega) HS1.out HNP.out)
      clear hbn hb HNE H11 H21 H41 HR1 c4 HB1
      have c4 := H42.out.rd.1
      go_wp2_with fail
      refine HDU.out.mono ?_
      rintro e w5 ⟨vw, rfl, how, hb⟩
      obtain ⟨KS, hKS⟩ : ∃ KS, dueL ⟨nm, by0, nv, fr, ev, rp, mvv, mu, rt⟩ ms l at_ = KS := ⟨_, rfl⟩
      rw [hKS] at how
      obtain ⟨pw, cw, rfl⟩ := owns_slice how
      have HKS := Lib.hid hKS
      have hkl : KS.length ≤ 200 := by
        rw [← hKS]
        have := dueL_len ⟨nm, by0, nv, fr, ev, rp, mvv, mu, rt⟩ ms l at_
        omega
      have HL5 := Lib.hid (H22.out.below hb)
      have H45 := Lib.hid (H42.out.below hb)
      have HK5 := Lib.hid ((Sl.owned encS_len how).mono (T := fun _ => True) (fun _ _ _ => trivial))
      have HB5 := Lib.hid (HB2.out.trans (hb.mono HB2.out.size))
      clear how hb hKS c4 HDU H12 H22 H42 HR2 HB2
      go_wp2_with fail
      go_loopw [10, 11, 12, 13] (fun iv_ _ _ _ wr => ∃ i : Nat, iv_ = .int .i64 i ∧ i ≤ KS.length ∧ Below w5.heap.size w5 wr) (fun iv_ _ _ _ _ => KS.length - (intOf iv_).toNat)
      · exact ⟨0, rfl, by omega, Below.refl _ _⟩
      obtain ⟨i, rfl, hi, hB⟩ := hrel
      obtain ⟨Wo, hWo⟩ : ∃ Wo, Wo = wr := ⟨_, rfl⟩
      rw [← hWo] at hB ⊢
      clear hWo wr
      have HB := Lib.hid hB
      clear hB
      by_cases hik : i < KS.length
      · obtain ⟨s, hs⟩ : ∃ s, KS[i]? = some s := ⟨_, List.getElem?_eq_getElem hik⟩
        have hii : (i : Int) < (KS.length : Int) := by omega
        have HSI := Lib.hid hs
        clear hs
        go_wp2_with fail
        go_loopw [11, 12] (fun fv_ jv_ wr => ∃ (j : Nat) (f : Bool), fv_ = .bool f ∧ jv_ = .int .i64 j ∧ j ≤ l.length ∧ f = (l.take j).any (fun x => decide (x.by_ = s) && dueB rp at_ x) ∧ Below w5.heap.size w5 wr) (fun _ jv_ _ => l.length - (intOf jv_).toNat)
        · exact ⟨0, false, rfl, rfl, by omega, by simp, HB.out⟩
        obtain ⟨j, f, rfl, rfl, hj, hf, hBj⟩ := hrel
        have HFJ := Lib.hid hf
        have HBJ := Lib.hid hBj
        clear hf hBj
        by_cases hjl : j < l.length
        · obtain ⟨⟨r, by_, st, si, t⟩, hx⟩ : ∃ x, l[j]? = some x := ⟨_, List.getElem?_eq_getElem hjl⟩
          obtain ⟨ad, rfl, -, -, hrow⟩ := (HL5.out.below HBJ.out).at hx
          obtain ⟨y0, y1, y2, y3, y4⟩ := cells_A hrow hx
          simp only at y1 y2 y4
          obtain ⟨ad2, rfl, -, -, hrow2⟩ := (HK5.out.below HBJ.out).at HSI.out
          have z0 := hrow2 i _ HSI.out 0 _ rfl
          rw [Addr.add_zero', Nat.mul_one] at z0
          have hjj : (j : Int) < (l.length : Int) := by omega
          have hnt := HNP.out.1 _ (List.mem_of_getElem? hx)
          have hna := HNP.out.2
          simp only at hnt hna
          have hbx := H45.out.below HBJ.out
          have HAN : Hid ((l.take (j + 1)).any (fun x => decide (x.by_ = s) && dueB rp at_ x) = ((l.take j).any (fun x => decide (x.by_ = s) && dueB rp at_ x) || (decide (by_ = s) && dueB rp at_ ⟨r, by_, st, si, t⟩))) := Lib.hid (by rw [take_snoc' hx, List.any_append]; simp)
          have HW : Hid (IntKind.i64.wrap (at_ - t) = at_ - t) := Lib.hid (IntWalk.i64_in _ ⟨by omega, by omega⟩)
          obtain ⟨q1, e1⟩ : ∃ q, (st == 2) = q := ⟨_, rfl⟩
          obtain ⟨q2, e2⟩ : ∃ q, decide (t < 0) = q := ⟨_, rfl⟩
          obtain ⟨q3, e3⟩ : ∃ q, decide (rp ≤ IntKind.i64.wrap (at_ - t)) = q := ⟨_, rfl⟩
          have HDB : Hid (dueB rp at_ ⟨r, by_, st, si, t⟩ = (q1 && (q2 || q3))) := Lib.hid (by
            rw [← e1, ← e2, ← e3, HW.out]
            unfold dueB
            simp only
            rw [Bool.eq_iff_iff]
            simp)
          clear hx hrow hrow2 hnt hna y0 y3
          go_wp2_with fail
          cases f with
          | true =>
            have HV : Hid ((l.take (j + 1)).any (fun x => decide (x.by_ = s) && dueB rp at_ x) = true) := Lib.hid (by rw [HAN.out, ← HFJ.out]; simp)
            refine wp_region_ordH [0, 1, 2, 3, 4, 5, 6, 7, 8, 9, 10, 11, 12, 13, 14, 15, 16, 17, 18, 19, 20, 21, 22, 23, 24, 25, 26, 27, 28, 29, 30, 31, 32, 33, 34, 35, 36, 37, 38, 39, 40, 41] (fun w' => Below wr.heap.size wr w') (by kernel_rfl) (by kernel_rfl) ?_
            have hb0 : Below wr.heap.size wr wr.drew := (Below.refl _ wr).drew
            iterate 42 ((first | (refine ordH_free (v := ?_) rfl (by kernel_rfl) (fun _ _ _ h => h) (Or.inl ⟨rfl, fun w' hS => ?_⟩) hb0 ?_; rotate_left; (have y1 := cell_below y1 hS; have y2 := cell_below y2 hS; have y4 := cell_below y4 hS; have z0 := cell_below z0 hS; have cx := (hbx.below hS).rd.1; go_simp <;> with_reducible rfl)) | (refine ordH_free (v := undef) rfl (by kernel_rfl) (fun _ _ _ h => h) (Or.inr ⟨rfl, rfl⟩) hb0 ?_)); (simp only [Act.put, List.setIfInBounds_toArray, List.set_cons_zero, List.set_cons_succ]))
            refine ⟨by kernel_rfl, ?_⟩
            have HB7 : Hid (Below w5.heap.size w5 wr.drew) := Lib.hid (HBJ.out.drew)
            clear y1 y2 y4 z0 hb0 hbx e1 e2 e3
            go_wp2_with fail
            exact ⟨⟨j + 1, true, rfl, by simp, by omega, HV.out.symm, HB7.out⟩, by simp [intOf]; omega⟩
          | false =>
            by_cases hq : s = by_
            · subst hq
              have hse := str_eq s
              cases q1 with
              | false =>
                have HV : Hid ((l.take (j + 1)).any (fun x => decide (x.by_ = s) && dueB rp at_ x) = false) := Lib.hid (by rw [HAN.out, ← HFJ.out]; rw [HDB.out]; simp)
                refine wp_region_ordH [0, 1, 2, 3, 4, 5, 6, 7, 8, 9, 10, 11, 12, 13, 14, 15, 16, 17, 18, 19, 20, 21, 22, 23, 24, 25, 26, 27, 28, 29, 30, 31, 32, 33, 34, 35, 36, 37, 38, 39, 40, 41] (fun w' => Below wr.heap.size wr w') (by kernel_rfl) (by kernel_rfl) ?_
                have hb0 : Below wr.heap.size wr wr.drew := (Below.refl _ wr).drew
                iterate 42 ((first | (refine ordH_free (v := ?_) rfl (by kernel_rfl) (fun _ _ _ h => h) (Or.inl ⟨rfl, fun w' hS => ?_⟩) hb0 ?_; rotate_left; (have y1 := cell_below y1 hS; have y2 := cell_below y2 hS; have y4 := cell_below y4 hS; have z0 := cell_below z0 hS; have cx := (hbx.below hS).rd.1; go_simp <;> with_reducible rfl)) | (refine ordH_free (v := undef) rfl (by kernel_rfl) (fun _ _ _ h => h) (Or.inr ⟨rfl, rfl⟩) hb0 ?_)); (simp only [Act.put, List.setIfInBounds_toArray, List.set_cons_zero, List.set_cons_succ]))
                refine ⟨by kernel_rfl, ?_⟩
                have HB7 : Hid (Below w5.heap.size w5 wr.drew) := Lib.hid (HBJ.out.drew)
                clear y1 y2 y4 z0 hb0 hbx e1 e2 e3
                go_wp2_with fail
                exact ⟨⟨j + 1, false, rfl, by simp, by omega, HV.out.symm, HB7.out⟩, by simp [intOf]; omega⟩
              | true =>
                cases q2 with
                | true =>
                  have HV : Hid ((l.take (j + 1)).any (fun x => decide (x.by_ = s) && dueB rp at_ x) = true) := Lib.hid (by rw [HAN.out, ← HFJ.out]; rw [HDB.out]; simp)
                  refine wp_region_ordH [0, 1, 2, 3, 4, 5, 6, 7, 8, 9, 10, 11, 12, 13, 14, 15, 16, 17, 18, 19, 20, 21, 22, 23, 24, 25, 26, 27, 28, 29, 30, 31, 32, 33, 34, 35, 36, 37, 38, 39, 40, 41] (fun w' => Below wr.heap.size wr w') (by kernel_rfl) (by kernel_rfl) ?_
                  have hb0 : Below wr.heap.size wr wr.drew := (Below.refl _ wr).drew
                  iterate 42 ((first | (refine ordH_free (v := ?_) rfl (by kernel_rfl) (fun _ _ _ h => h) (Or.inl ⟨rfl, fun w' hS => ?_⟩) hb0 ?_; rotate_left; (have y1 := cell_below y1 hS; have y2 := cell_below y2 hS; have y4 := cell_below y4 hS; have z0 := cell_below z0 hS; have cx := (hbx.below hS).rd.1; go_simp <;> with_reducible rfl)) | (refine ordH_free (v := undef) rfl (by kernel_rfl) (fun _ _ _ h => h) (Or.inr ⟨rfl, rfl⟩) hb0 ?_)); (simp only [Act.put, List.setIfInBounds_toArray, List.set_cons_zero, List.set_cons_succ]))
                  refine ⟨by kernel_rfl, ?_⟩
                  have HB7 : Hid (Below w5.heap.size w5 wr.drew) := Lib.hid (HBJ.out.drew)
                  clear y1 y2 y4 z0 hb0 hbx e1 e2 e3
                  go_wp2_with fail
                  exact ⟨⟨j + 1, true, rfl, by simp, by omega, HV.out.symm, HB7.out⟩, by simp [intOf]; omega⟩
                | false =>
                  cases q3 with
                  | true =>
                    have HV : Hid ((l.take (j + 1)).any (fun x => decide (x.by_ = s) && dueB rp at_ x) = true) := Lib.hid (by rw [HAN.out, ← HFJ.out]; rw [HDB.out]; simp)
                    refine wp_region_ordH [0, 1, 2, 3, 4, 5, 6, 7, 8, 9, 10, 11, 12, 13, 14, 15, 16, 17, 18, 19, 20, 21, 22, 23, 24, 25, 26, 27, 28, 29, 30, 31, 32, 33, 34, 35, 36, 37, 38, 39, 40, 41] (fun w' => Below wr.heap.size wr w') (by kernel_rfl) (by kernel_rfl) ?_
                    have hb0 : Below wr.heap.size wr wr.drew := (Below.refl _ wr).drew
                    iterate 42 ((first | (refine ordH_free (v := ?_) rfl (by kernel_rfl) (fun _ _ _ h => h) (Or.inl ⟨rfl, fun w' hS => ?_⟩) hb0 ?_; rotate_left; (have y1 := cell_below y1 hS; have y2 := cell_below y2 hS; have y4 := cell_below y4 hS; have z0 := cell_below z0 hS; have cx := (hbx.below hS).rd.1; go_simp <;> with_reducible rfl)) | (refine ordH_free (v := undef) rfl (by kernel_rfl) (fun _ _ _ h => h) (Or.inr ⟨rfl, rfl⟩) hb0 ?_)); (simp only [Act.put, List.setIfInBounds_toArray, List.set_cons_zero, List.set_cons_succ]))
                    refine ⟨by kernel_rfl, ?_⟩
                    have HB7 : Hid (Below w5.heap.size w5 wr.drew) := Lib.hid (HBJ.out.drew)
                    clear y1 y2 y4 z0 hb0 hbx e1 e2 e3
                    go_wp2_with fail
                    exact ⟨⟨j + 1, true, rfl, by simp, by omega, HV.out.symm, HB7.out⟩, by simp [intOf]; omega⟩
                  | false =>
                    have HV : Hid ((l.take (j + 1)).any (fun x => decide (x.by_ = s) && dueB rp at_ x) = false) := Lib.hid (by rw [HAN.out, ← HFJ.out]; rw [HDB.out]; simp)
                    refine wp_region_ordH [0, 1, 2, 3, 4, 5, 6, 7, 8, 9, 10, 11, 12, 13, 14, 15, 16, 17, 18, 19, 20, 21, 22, 23, 24, 25, 26, 27, 28, 29, 30, 31, 32, 33, 34, 35, 36, 37, 38, 39, 40, 41] (fun w' => Below wr.heap.size wr w') (by kernel_rfl) (by kernel_rfl) ?_
                    have hb0 : Below wr.heap.size wr wr.drew := (Below.refl _ wr).drew
                    iterate 42 ((first | (refine ordH_free (v := ?_) rfl (by kernel_rfl) (fun _ _ _ h => h) (Or.inl ⟨rfl, fun w' hS => ?_⟩) hb0 ?_; rotate_left; (have y1 := cell_below y1 hS; have y2 := cell_below y2 hS; have y4 := cell_below y4 hS; have z0 := cell_below z0 hS; have cx := (hbx.below hS).rd.1; go_simp <;> with_reducible rfl)) | (refine ordH_free (v := undef) rfl (by kernel_rfl) (fun _ _ _ h => h) (Or.inr ⟨rfl, rfl⟩) hb0 ?_)); (simp only [Act.put, List.setIfInBounds_toArray, List.set_cons_zero, List.set_cons_succ]))
                    refine ⟨by kernel_rfl, ?_⟩
                    have HB7 : Hid (Below w5.heap.size w5 wr.drew) := Lib.hid (HBJ.out.drew)
                    clear y1 y2 y4 z0 hb0 hbx e1 e2 e3
                    go_wp2_with fail
                    exact ⟨⟨j + 1, false, rfl, by simp, by omega, HV.out.symm, HB7.out⟩, by simp [intOf]; omega⟩
            · have hq2 : by_ ≠ s := fun e => hq e.symm
              have hse := str_ne hq2
              have HQ := Lib.hid hq2
              clear hq2
              clear hq
              have HV : Hid ((l.take (j + 1)).any (fun x => decide (x.by_ = s) && dueB rp at_ x) = false) := Lib.hid (by rw [HAN.out, ← HFJ.out]; simp [HQ.out])
              refine wp_region_ordH [0, 1, 2, 3, 4, 5, 6, 7, 8, 9, 10, 11, 12, 13, 14, 15, 16, 17, 18, 19, 20, 21, 22, 23, 24, 25, 26, 27, 28, 29, 30, 31, 32, 33, 34, 35, 36, 37, 38, 39, 40, 41] (fun w' => Below wr.heap.size wr w') (by kernel_rfl) (by kernel_rfl) ?_
              have hb0 : Below wr.heap.size wr wr.drew := (Below.refl _ wr).drew
              iterate 42 ((first | (refine ordH_free (v := ?_) rfl (by kernel_rfl) (fun _ _ _ h => h) (Or.inl ⟨rfl, fun w' hS => ?_⟩) hb0 ?_; rotate_left; (have y1 := cell_below y1 hS; have y2 := cell_below y2 hS; have y4 := cell_below y4 hS; have z0 := cell_below z0 hS; have cx := (hbx.below hS).rd.1; go_simp <;> with_reducible rfl)) | (refine ordH_free (v := undef) rfl (by kernel_rfl) (fun _ _ _ h => h) (Or.inr ⟨rfl, rfl⟩) hb0 ?_)); (simp only [Act.put, List.setIfInBounds_toArray, List.set_cons_zero, List.set_cons_succ]))
              refine ⟨by kernel_rfl, ?_⟩
              have HB7 : Hid (Below w5.heap.size w5 wr.drew) := Lib.hid (HBJ.out.drew)
              clear y1 y2 y4 z0 hb0 hbx e1 e2 e3
              go_wp2_with fail
              exact ⟨⟨j + 1, false, rfl, by simp, by omega, HV.out.symm, HB7.out⟩, by simp [intOf]; omega⟩
        · obtain rfl : j = l.length := by omega
          rw [List.take_length] at HFJ
          have HFT : Hid (f = true) := Lib.hid (by
            have hm := List.mem_of_getElem? HSI.out
            rw [← HKS.out, dueL_mem] at hm
            obtain ⟨-, x, hx, h1, h2⟩ := hm
            rw [HFJ.out, List.any_eq_true]
            exact ⟨x, hx, by simp only at h1; simp [h1, h2]⟩)
          have e := HFT.out
          subst e
          go_wp2_with fail
          go_loopw [11, 13] (fun fv_ jv_ wr => ∃ (k : Nat), fv_ = .bool true ∧ jv_ = .int .i64 k ∧ k ≤ i ∧ Below w5.heap.size w5 wr) (fun _ jv_ _ => i - (intOf jv_).toNat)
          · exact ⟨0, rfl, rfl, by omega, HBJ.out⟩
          obtain ⟨k, rfl, rfl, hk, hB⟩ := hrel
          have HBK := Lib.hid hB
          clear hB
          by_cases hki : k < i
          · obtain ⟨y, hy⟩ : ∃ y, KS[k]? = some y := ⟨_, List.getElem?_eq_getElem (by omega)⟩
            obtain ⟨ad2, rfl, -, -, hrow2⟩ := (HK5.out.below HBK.out).at HSI.out
            have z0 := hrow2 i _ HSI.out 0 _ rfl
            have z1 := hrow2 k _ hy 0 _ rfl
            rw [Addr.add_zero', Nat.mul_one] at z0 z1
            have hkk : (k : Int) < (i : Int) := by omega
            have hkl2 : (k : Int) < (KS.length : Int) := by omega
            have hne : y ≠ s := fun e => by
              have hnd : KS.Nodup := by rw [← HKS.out]; exact dueL_nodup _ _ _ _
              have := (List.getElem?_inj (by omega) hnd).1 (hy.trans ((congrArg some e).trans HSI.out.symm))
              omega
            have hse := str_ne hne
            have hse2 : (y.toList != s.toList) = true := by simp [bne, hse]
            clear hrow2 hy hne
            go_wp2_with fail
            refine wp_region_ordH [0, 1, 2, 3, 4, 5, 6, 7, 8, 9, 10, 11, 12] (fun w' => Below wr.heap.size wr w') (by kernel_rfl) (by kernel_rfl) ?_
            have hb0 : Below wr.heap.size wr wr.drew := (Below.refl _ wr).drew
            iterate 13 ((first | (refine ordH_free (v := ?_) rfl (by kernel_rfl) (fun _ _ _ h => h) (Or.inl ⟨rfl, fun w' hS => ?_⟩) hb0 ?_; rotate_left; (have z0 := cell_below z0 hS; have z1 := cell_below z1 hS; go_simp <;> with_reducible rfl)) | (refine ordH_free (v := undef) rfl (by kernel_rfl) (fun _ _ _ h => h) (Or.inr ⟨rfl, rfl⟩) hb0 ?_)); (simp only [Act.put, List.setIfInBounds_toArray, List.set_cons_zero, List.set_cons_succ]))
            refine ⟨by kernel_rfl, ?_⟩
            have HB8 := Lib.hid (HBK.out.drew)
            clear z0 z1 hb0 hse hse2
            go_wp2_with fail
            exact ⟨⟨k + 1, rfl, by simp, by omega, HB8.out⟩, by simp [intOf]; omega⟩
          · obtain rfl : k = i := by omega
            go_wp2_with fail
            exact ⟨⟨k + 1, by simp, by omega, HBK.out⟩, by simp [intOf]; omega⟩
      · obtain rfl : i = KS.length := by omega
        have HF := Lib.hid (HB5.out.trans (HB.out.mono HB5.out.size))
        go_wp2_with fail
        go_ret
        exact ⟨rfl, HF.out⟩
end Go.Proofs.Ytajflljemfgkiaa
