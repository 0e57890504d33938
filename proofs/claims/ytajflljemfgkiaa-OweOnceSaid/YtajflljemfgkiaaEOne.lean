/- OweOnce's walk -/
import Derived.Test.YtajflljemfgkiaaEAwk
import Derived.Test.YtajflljemfgkiaaEPl3
import Derived.Test.YtajflljemfgkiaaEFun
namespace Go.Proofs.Ytajflljemfgkiaa
open Go.RowKit Mut
attribute [local go_sem] Oper.semAt_some
set_option maxRecDepth 100000 in
set_option maxHeartbeats 4000000 in
theorem oweOnce_any {R : Rl} {at_ more : Int} {v1 v2 : Value} {ms : List MuteD} {l : List Al} {w : World} (hr : Ro (fun _ => True) w R) (h1 : Sl (fun _ => True) w v1 10 encU ms) (h2 : Sl (fun _ => True) w v2 5 encA l) (_ : (Lit.int .i64 at_).wf = true) (_ : (Lit.int .i64 more).wf = true) :
    Calls Try.prog 5 #[rv R, v1, v2, .int .i64 at_, .int .i64 more] w (Tells (.bool true) w) := by
  have hnv := hr.n
  have hmv := hr.m.oneCell
  have hb0 : Below w.heap.size w (w.alloc (.cells (rc R) 25)) := (Below.refl _ w).alloc (Nat.le_refl _) _
  have b4 := Box.new w (rc R) 25
  have hr0 : Ro (fun _ => True) (w.alloc (.cells (rc R) 25)) R := ⟨hr.m.below hb0, hr.n⟩
  have H1 := Lib.hid (h1.below hb0)
  have H2 := Lib.hid (h2.below hb0)
  obtain ⟨p1, c1, rfl, -, -⟩ := h1.len
  obtain ⟨p2, c2, rfl, -, -⟩ := h2.len
  obtain ⟨W0, hW0⟩ : ∃ W0, (w.alloc (.cells (rc R) 25)) = W0 := ⟨_, rfl⟩
  rw [hW0] at hb0 b4 H1 H2 hr0
  have HW0 := Lib.hid hW0
  have HB0 := Lib.hid hb0
  have H4 := Lib.hid b4
  have HR := Lib.hid hr0
  obtain ⟨nm, by0, nv, fr, ev, rp, mvv, mu, rt⟩ := R
  simp only at hnv hmv
  have c4 := b4.rd.1
  clear hr h1 h2 hb0 b4 hr0 hW0
  go_enter Try.func5, Try.ntmps5
  go_wp2_with fail
  rw [HW0.out]
  refine (awake_any W0).mono ?_
  rintro e wa ⟨rfl, hb⟩
  have HBA := Lib.hid (HB0.out.trans (hb.mono HB0.out.size))
  have H1A := Lib.hid (H1.out.below hb)
  have H2A := Lib.hid (H2.out.below hb)
  have H4A := Lib.hid (H4.out.below hb)
  have HRA : Hid (Ro (fun _ => True) wa ⟨nm, by0, nv, fr, ev, rp, mvv, mu, rt⟩) := Lib.hid ⟨HR.out.m.below hb, HR.out.n⟩
  have HGR := Lib.hid (great_any (keys := []) (v4 := .slice none 0 0) HRA.out H1A.out H2A.out (Sl.nil (fun _ => True) wa))
  clear hb c4 H1 H2 H4 HR HB0
  have c4 := H4A.out.rd.1
  go_wp2_with fail
  refine HGR.out.mono ?_
  rintro e w1 ⟨bg, rfl, hbg, hb⟩
  have HB1 := Lib.hid (HBA.out.trans (hb.mono HBA.out.size))
  cases bg with
  | true =>
    clear hbg hb c4
    go_wp2_with fail
    go_ret
    exact ⟨rfl, HB1.out⟩
  | false =>
    obtain ⟨⟨g1, -, g3, g4⟩, g5, -, -, -⟩ := hbg rfl
    simp only at g4
    have H11 := Lib.hid (H1A.out.below hb)
    have H21 := Lib.hid (H2A.out.below hb)
    have H41 := Lib.hid (H4A.out.below hb)
    have HR1 : Hid (Ro (fun _ => True) w1 ⟨nm, by0, nv, fr, ev, rp, mvv, mu, rt⟩) := Lib.hid ⟨HRA.out.m.below hb, HRA.out.n⟩
    have HS1 : Hid (∀ x ∈ l, x.by_.size ≤ maxLen) := Lib.hid fun x hx => by have := g5 x hx; unfold maxLen; omega
    have HNE := Lib.hid (near_any (R := ⟨nm, by0, nv, fr, ev, rp, mvv, mu, rt⟩) (at_ := at_) H21.out (by omega) hnv hmv)
    clear hbg hb g5 HGR H1A H2A H4A HRA c4
    have c4 := H41.out.rd.1
    go_wp2_with fail
    refine HNE.out.mono ?_
    rintro e w2 ⟨bn, rfl, hbn, hb⟩
    have HB2 := Lib.hid (HB1.out.trans (hb.mono HB1.out.size))
    cases bn with
    | false =>
      clear hbn hb c4
      go_wp2_with fail
      go_ret
      exact ⟨rfl, HB2.out⟩
    | true =>
      have HNP := Lib.hid (hbn rfl)
      have H12 := Lib.hid (H11.out.below hb)
      have H22 := Lib.hid (H21.out.below hb)
      have H42 := Lib.hid (H41.out.below hb)
      have HR2 : Hid (Ro (fun _ => True) w2 ⟨nm, by0, nv, fr, ev, rp, mvv, mu, rt⟩) := Lib.hid ⟨HR1.out.m.below hb, HR1.out.n⟩
      clear hbn hb HNE H11 H21 H41 HR1 c4 HB1
      have c4 := H42.out.rd.1
      rcases Int.lt_or_le at_ 0 with g6 | g6
      · go_wp2_with fail
        go_ret
        exact ⟨rfl, HB2.out⟩
      rcases Int.lt_or_le 1099511627776 at_ with g7 | g7
      · go_wp2_with fail
        go_ret
        exact ⟨rfl, HB2.out⟩
      rcases Int.lt_or_le more 0 with g8 | g8
      · go_wp2_with fail
        go_ret
        exact ⟨rfl, HB2.out⟩
      rcases Int.lt_or_le 1048576 more with g9 | g9
      · go_wp2_with fail
        go_ret
        exact ⟨rfl, HB2.out⟩
      rcases Int.lt_or_le rp 1 with ga | ga
      · go_wp2_with fail
        go_ret
        exact ⟨rfl, HB2.out⟩
      rcases Int.lt_or_le 1048576 rp with gb | gb
      · go_wp2_with fail
        go_ret
        exact ⟨rfl, HB2.out⟩
      go_wp2_with fail
      clear c4
      go_loopw [11, 12] (fun iv_ _ wr => ∃ i : Nat, iv_ = .int .i64 i ∧ i ≤ l.length ∧ ((l.take i).map Al.by_).Nodup ∧ Below w2.heap.size w2 wr) (fun iv_ _ _ => l.length - (intOf iv_).toNat)
      · exact ⟨0, rfl, by omega, by simp, Below.refl _ _⟩
      obtain ⟨i, rfl, hi, hnd, hB⟩ := hrel
      obtain ⟨Wo, hWo⟩ : ∃ Wo, Wo = wr := ⟨_, rfl⟩
      rw [← hWo] at hB ⊢
      clear hWo wr
      have HND := Lib.hid hnd
      have HB := Lib.hid hB
      clear hnd hB
      by_cases hil : i < l.length
      · obtain ⟨x, hx⟩ : ∃ x, l[i]? = some x := ⟨_, List.getElem?_eq_getElem hil⟩
        have hii : (i : Int) < (l.length : Int) := by omega
        have HX := Lib.hid hx
        clear hx
        go_wp2_with fail
        go_loopw [12] (fun kv_ wr => ∃ k : Nat, kv_ = .int .i64 k ∧ k ≤ i ∧ (∀ y ∈ l.take k, y.by_ ≠ x.by_) ∧ Below w2.heap.size w2 wr) (fun kv_ _ => i - (intOf kv_).toNat)
        · exact ⟨0, rfl, by omega, (fun y hy => by simp at hy), HB.out⟩
        obtain ⟨k, rfl, hk, hf, hB⟩ := hrel
        have HFK := Lib.hid hf
        have HBK := Lib.hid hB
        clear hf hB
        by_cases hki : k < i
        · obtain ⟨y, hy⟩ : ∃ y, l[k]? = some y := ⟨_, List.getElem?_eq_getElem (by omega)⟩
          obtain ⟨ad, rfl, -, -, hrow⟩ := (H22.out.below HBK.out).at HX.out
          obtain ⟨-, x1, -⟩ := cells_A hrow HX.out
          obtain ⟨-, y1, -⟩ := cells_A hrow hy
          have HY := Lib.hid hy
          obtain ⟨sx, hsx⟩ : ∃ s, x.by_ = s := ⟨_, rfl⟩
          obtain ⟨sy, hsy⟩ : ∃ s, y.by_ = s := ⟨_, rfl⟩
          have HSX := Lib.hid hsx
          have HSY := Lib.hid hsy
          rw [hsx] at x1
          rw [hsy] at y1
          have hkk : (k : Int) < (i : Int) := by omega
          have hkl2 : (k : Int) < (l.length : Int) := by omega
          clear hrow hy hsx hsy
          by_cases hq : sy = sx
          · subst hq
            have hse := str_eq sy
            go_wp2_with fail
            refine wp_region_ordH [0, 1, 2, 3, 4, 5, 6, 7, 8, 9, 10] (fun w' => Below wr.heap.size wr w') (by kernel_rfl) (by kernel_rfl) ?_
            have hb0 : Below wr.heap.size wr wr.drew := (Below.refl _ wr).drew
            iterate 11 ((first | (refine ordH_free (v := ?_) rfl (by kernel_rfl) (fun _ _ _ h => h) (Or.inl ⟨rfl, fun w' hS => ?_⟩) hb0 ?_; rotate_left; (have x1 := cell_below x1 hS; have y1 := cell_below y1 hS; go_simp <;> with_reducible rfl)) | (refine ordH_free (v := undef) rfl (by kernel_rfl) (fun _ _ _ h => h) (Or.inr ⟨rfl, rfl⟩) hb0 ?_)); (simp only [Act.put, List.setIfInBounds_toArray, List.set_cons_zero, List.set_cons_succ]))
            refine ⟨by kernel_rfl, ?_⟩
            have HB8 := Lib.hid (HB2.out.trans (HBK.out.drew.mono HB2.out.size))
            clear x1 y1 hb0 hse
            go_wp2_with fail
            go_ret
            exact ⟨rfl, HB8.out⟩
          · have hse := str_ne hq
            have HQ := Lib.hid hq
            clear hq
            go_wp2_with fail
            refine wp_region_ordH [0, 1, 2, 3, 4, 5, 6, 7, 8, 9, 10] (fun w' => Below wr.heap.size wr w') (by kernel_rfl) (by kernel_rfl) ?_
            have hb0 : Below wr.heap.size wr wr.drew := (Below.refl _ wr).drew
            iterate 11 ((first | (refine ordH_free (v := ?_) rfl (by kernel_rfl) (fun _ _ _ h => h) (Or.inl ⟨rfl, fun w' hS => ?_⟩) hb0 ?_; rotate_left; (have x1 := cell_below x1 hS; have y1 := cell_below y1 hS; go_simp <;> with_reducible rfl)) | (refine ordH_free (v := undef) rfl (by kernel_rfl) (fun _ _ _ h => h) (Or.inr ⟨rfl, rfl⟩) hb0 ?_)); (simp only [Act.put, List.setIfInBounds_toArray, List.set_cons_zero, List.set_cons_succ]))
            refine ⟨by kernel_rfl, ?_⟩
            have HB8 := Lib.hid (HBK.out.drew)
            have HFN := Lib.hid (all_snoc HFK.out HY.out (show y.by_ ≠ x.by_ by rw [HSX.out, HSY.out]; exact HQ.out))
            clear x1 y1 hb0 hse
            go_wp2_with fail
            exact ⟨⟨k + 1, by simp, by omega, HFN.out, HB8.out⟩, by simp [intOf]; omega⟩
        · obtain rfl : k = i := by omega
          have HNN : Hid (((l.take (k + 1)).map Al.by_).Nodup) := Lib.hid (by
            rw [take_snoc' HX.out, List.map_append]
            refine List.nodup_append.2 ⟨HND.out, by simp, fun a ha b hb e => ?_⟩
            obtain ⟨y, hy, rfl⟩ := List.mem_map.1 ha
            obtain rfl := List.mem_singleton.1 hb
            exact HFK.out y hy e)
          go_wp2_with fail
          exact ⟨⟨k + 1, by simp, by omega, HNN.out, HBK.out⟩, by simp [intOf]; omega⟩
      · obtain rfl : i = l.length := by omega
        rw [List.take_length] at HND
        have H13 := Lib.hid (H12.out.below HB.out)
        have H23 := Lib.hid (H22.out.below HB.out)
        have H43 := Lib.hid (H42.out.below HB.out)
        have HR3 : Hid (Ro (fun _ => True) Wo ⟨nm, by0, nv, fr, ev, rp, mvv, mu, rt⟩) := Lib.hid ⟨HR2.out.m.below HB.out, HR2.out.n⟩
        have HB3 := Lib.hid (HB2.out.trans (HB.out.mono HB2.out.size))
        have HD1 := Lib.hid (due_any HR3.out H13.out H23.out (by omega) (by simp only; omega) (by omega) HS1.out HNP.out)
        have c4 := H43.out.rd.1
        clear H12 H22 H42 HR2 HB2 HB
        go_wp2_with fail
        refine HD1.out.mono ?_
        rintro e w4 ⟨v4, rfl, ho, hb⟩
        obtain ⟨KD, hKD⟩ : ∃ K, dueL ⟨nm, by0, nv, fr, ev, rp, mvv, mu, rt⟩ ms l at_ = K := ⟨_, rfl⟩
        rw [hKD] at ho
        obtain ⟨p4, d4, rfl⟩ := owns_slice ho
        have hkl : KD.length ≤ 200 := by
          rw [← hKD]
          have := dueL_len ⟨nm, by0, nv, fr, ev, rp, mvv, mu, rt⟩ ms l at_
          omega
        have HKS : Hid (∀ s ∈ KD, s.size ≤ maxLen) := Lib.hid fun s hs => by
          rw [← hKD, dueL_mem] at hs
          obtain ⟨-, x, hx, -, rfl⟩ := hs
          exact HS1.out x hx
        have HKD := Lib.hid hKD
        have HD4 := Lib.hid ((Sl.owned encS_len ho).mono (T := fun _ => True) (fun _ _ _ => trivial))
        have H14 := Lib.hid (H13.out.below hb)
        have H24 := Lib.hid (H23.out.below hb)
        have H44 := Lib.hid (H43.out.below hb)
        have HR4 : Hid (Ro (fun _ => True) w4 ⟨nm, by0, nv, fr, ev, rp, mvv, mu, rt⟩) := Lib.hid ⟨HR3.out.m.below hb, HR3.out.n⟩
        have HB4 := Lib.hid (HB3.out.trans (hb.mono HB3.out.size))
        have HTL := Lib.hid (tell_any (at_ := at_) H24.out HD4.out (by omega) (by omega) HS1.out HKS.out)
        clear ho hb hKD c4 HD1 H13 H23 H43 HR3 HB3
        go_wp2_with fail
        refine HTL.out.mono ?_
        rintro e w5 ⟨v5, rfl, ho, hb⟩
        have hlt := tellL_len l KD at_
        obtain ⟨TL, hTL⟩ : ∃ T, tellL l KD at_ = T := ⟨_, rfl⟩
        rw [hTL] at ho hlt
        have st := (Sl.owned encA_len ho).mono (T := fun _ => True) (fun _ _ _ => trivial)
        obtain ⟨p5, d5, rfl⟩ := owns_slice ho
        rw [hlt] at st ⊢
        have HT5 := Lib.hid st
        have hmem : ∀ y ∈ TL, ∃ x ∈ l, y = tell1 KD at_ x := fun y hy => by
          rw [← hTL] at hy
          unfold tellL at hy
          obtain ⟨x, hx, e⟩ := List.mem_map.1 hy
          exact ⟨x, hx, e.symm⟩
        have HST : Hid (∀ x ∈ TL, x.by_.size ≤ maxLen) := Lib.hid fun y hy => by
          obtain ⟨x, hx, rfl⟩ := hmem y hy
          rw [tell1_by]
          exact HS1.out x hx
        have hnt : ∀ y ∈ TL, -2305843009213693952 ≤ y.told ∧ y.told ≤ 2305843009213693952 := fun y hy => by
          obtain ⟨x, hx, rfl⟩ := hmem y hy
          have h1 := HNP.out.1 x hx
          unfold tell1
          split
          · simp only
            omega
          · exact h1
        have HNT : Hid (NearP ⟨nm, by0, nv, fr, ev, rp, mvv, mu, rt⟩ TL at_) := Lib.hid ⟨hnt, HNP.out.2⟩
        have HNT2 : Hid (NearP ⟨nm, by0, nv, fr, ev, rp, mvv, mu, rt⟩ TL (at_ + more)) := Lib.hid ⟨hnt, by have := HNP.out.2; simp only at this ⊢; omega⟩
        have HNP2 : Hid (NearP ⟨nm, by0, nv, fr, ev, rp, mvv, mu, rt⟩ l (at_ + more)) := Lib.hid ⟨HNP.out.1, by have := HNP.out.2; simp only at this ⊢; omega⟩
        have HNO : Hid (dueL ⟨nm, by0, nv, fr, ev, rp, mvv, mu, rt⟩ ms TL at_ = []) := Lib.hid (by
          rw [← hTL, ← HKD.out]
          exact told_none g6 ga)
        have HYES : Hid (∀ (k : Nat) (x : Al), l[k]? = some x → hasK KD x.by_ = true → hasK (dueL ⟨nm, by0, nv, fr, ev, rp, mvv, mu, rt⟩ ms TL (at_ + more)) x.by_ = (hasK (dueL ⟨nm, by0, nv, fr, ev, rp, mvv, mu, rt⟩ ms l (at_ + more)) x.by_ && decide (rp ≤ more)) ∧ x.state = 2) := Lib.hid fun k x hx hk => by
          rw [← HKD.out] at hk
          rw [← hTL, ← HKD.out]
          exact once_due HND.out hx g6 g8 hk
        have HNOT : Hid (∀ (k : Nat) (x : Al), l[k]? = some x → hasK KD x.by_ = false → hasK (dueL ⟨nm, by0, nv, fr, ev, rp, mvv, mu, rt⟩ ms TL (at_ + more)) x.by_ = hasK (dueL ⟨nm, by0, nv, fr, ev, rp, mvv, mu, rt⟩ ms l (at_ + more)) x.by_) := Lib.hid fun k x hx hk => by
          rw [← HKD.out] at hk
          rw [← hTL, ← HKD.out]
          exact once_not HND.out hx hk
        have HTLL : Hid (TL.length = l.length) := Lib.hid hlt
        have HD5 := Lib.hid (HD4.out.below hb)
        have H15 := Lib.hid (H14.out.below hb)
        have H25 := Lib.hid (H24.out.below hb)
        have H45 := Lib.hid (H44.out.below hb)
        have HR5 : Hid (Ro (fun _ => True) w5 ⟨nm, by0, nv, fr, ev, rp, mvv, mu, rt⟩) := Lib.hid ⟨HR4.out.m.below hb, HR4.out.n⟩
        have HB5 := Lib.hid (HB4.out.trans (hb.mono HB4.out.size))
        have HT5' : Hid (Sl (fun _ => True) w5 (.slice p5 l.length d5) 5 encA TL) := HT5
        have HD2 := Lib.hid (due_any HR5.out H15.out HT5.out (by omega) (by simp only; omega) (by rw [hlt]; omega) HST.out HNT.out)
        have c4 := H45.out.rd.1
        clear st ho hb hlt hTL hmem hnt HTL HKS H14 H24 H44 HR4 HB4 HD4 HT5'
        go_wp2_with fail
        refine HD2.out.mono ?_
        rintro e w6 ⟨v6, rfl, ho, hb⟩
        rw [HNO.out] at ho
        obtain ⟨p6, d6, rfl⟩ := owns_slice ho
        have HD6 := Lib.hid (HD5.out.below hb)
        have HT6 := Lib.hid (HT5.out.below hb)
        have H16 := Lib.hid (H15.out.below hb)
        have H26 := Lib.hid (H25.out.below hb)
        have H46 := Lib.hid (H45.out.below hb)
        have HR6 : Hid (Ro (fun _ => True) w6 ⟨nm, by0, nv, fr, ev, rp, mvv, mu, rt⟩) := Lib.hid ⟨HR5.out.m.below hb, HR5.out.n⟩
        have HB6 := Lib.hid (HB5.out.trans (hb.mono HB5.out.size))
        clear ho hb HD2 c4 HD5 HT5 H15 H25 H45 HR5 HB5
        obtain ⟨KN, hKN⟩ : ∃ K, dueL ⟨nm, by0, nv, fr, ev, rp, mvv, mu, rt⟩ ms TL (at_ + more) = K := ⟨_, rfl⟩
        obtain ⟨KW, hKW⟩ : ∃ K, dueL ⟨nm, by0, nv, fr, ev, rp, mvv, mu, rt⟩ ms l (at_ + more) = K := ⟨_, rfl⟩
        have hknl : KN.length ≤ 200 := by
          rw [← hKN]
          have := dueL_len ⟨nm, by0, nv, fr, ev, rp, mvv, mu, rt⟩ ms TL (at_ + more)
          rw [HTLL.out] at this
          omega
        have hkwl : KW.length ≤ 200 := by
          rw [← hKW]
          have := dueL_len ⟨nm, by0, nv, fr, ev, rp, mvv, mu, rt⟩ ms l (at_ + more)
          omega
        rw [hKN, hKW] at HYES HNOT
        have HD7 : Hid (∀ W, Below w6.heap.size w6 W → Calls Try.prog 21 #[rv ⟨nm, by0, nv, fr, ev, rp, mvv, mu, rt⟩, .slice p1 ms.length c1, .slice p5 l.length d5, .int .i64 (at_ + more)] W (DueTo KN W)) := Lib.hid fun W hb' => by
          rw [← hKN]
          exact due_any (R := ⟨nm, by0, nv, fr, ev, rp, mvv, mu, rt⟩) ⟨HR6.out.m.below hb', HR6.out.n⟩ (H16.out.below hb') (HT6.out.below hb') (by omega) (by simp only; omega) (by rw [HTLL.out]; omega) HST.out HNT2.out
        have HD8 : Hid (∀ W, Below w6.heap.size w6 W → Calls Try.prog 21 #[rv ⟨nm, by0, nv, fr, ev, rp, mvv, mu, rt⟩, .slice p1 ms.length c1, .slice p2 l.length c2, .int .i64 (at_ + more)] W (DueTo KW W)) := Lib.hid fun W hb' => by
          rw [← hKW]
          exact due_any (R := ⟨nm, by0, nv, fr, ev, rp, mvv, mu, rt⟩) ⟨HR6.out.m.below hb', HR6.out.n⟩ (H16.out.below hb') (H26.out.below hb') (by omega) (by simp only; omega) (by omega) HS1.out HNP2.out
        have HWA : Hid (IntKind.i64.wrap (at_ + more) = at_ + more) := Lib.hid (IntWalk.i64_in _ ⟨by omega, by omega⟩)
        clear hKN hKW
        go_wp2_with fail
        refine anyH_start 16 (fun w' => Below w6.heap.size w6 w') (by kernel_rfl) rfl ?_
        have hb0 : Below w6.heap.size w6 w6.drew := (Below.refl _ w6).drew
        ((first | (refine anyH_free (i := 0) (v := ?_) rfl (by kernel_rfl) (fun _ _ _ h => h) (Or.inl ⟨rfl, fun w' hS => ?_⟩) hb0 ?_; rotate_left; ((have c4 := (H46.out.below hS).rd.1; have hwa := HWA.out); go_simp <;> with_reducible rfl)) | (refine anyH_free (i := 0) (v := undef) rfl (by kernel_rfl) (fun _ _ _ h => h) (Or.inr ⟨rfl, rfl⟩) hb0 ?_)); (simp only [Act.put, List.setIfInBounds_toArray, List.set_cons_zero, List.set_cons_succ])); ((first | (refine anyH_free (i := 1) (v := ?_) rfl (by kernel_rfl) (fun _ _ _ h => h) (Or.inl ⟨rfl, fun w' hS => ?_⟩) hb0 ?_; rotate_left; ((have c4 := (H46.out.below hS).rd.1; have hwa := HWA.out); go_simp <;> with_reducible rfl)) | (refine anyH_free (i := 1) (v := undef) rfl (by kernel_rfl) (fun _ _ _ h => h) (Or.inr ⟨rfl, rfl⟩) hb0 ?_)); (simp only [Act.put, List.setIfInBounds_toArray, List.set_cons_zero, List.set_cons_succ])); ((first | (refine anyH_free (i := 2) (v := ?_) rfl (by kernel_rfl) (fun _ _ _ h => h) (Or.inl ⟨rfl, fun w' hS => ?_⟩) hb0 ?_; rotate_left; ((have c4 := (H46.out.below hS).rd.1; have hwa := HWA.out); go_simp <;> with_reducible rfl)) | (refine anyH_free (i := 2) (v := undef) rfl (by kernel_rfl) (fun _ _ _ h => h) (Or.inr ⟨rfl, rfl⟩) hb0 ?_)); (simp only [Act.put, List.setIfInBounds_toArray, List.set_cons_zero, List.set_cons_succ])); ((first | (refine anyH_free (i := 3) (v := ?_) rfl (by kernel_rfl) (fun _ _ _ h => h) (Or.inl ⟨rfl, fun w' hS => ?_⟩) hb0 ?_; rotate_left; ((have c4 := (H46.out.below hS).rd.1; have hwa := HWA.out); go_simp <;> with_reducible rfl)) | (refine anyH_free (i := 3) (v := undef) rfl (by kernel_rfl) (fun _ _ _ h => h) (Or.inr ⟨rfl, rfl⟩) hb0 ?_)); (simp only [Act.put, List.setIfInBounds_toArray, List.set_cons_zero, List.set_cons_succ])); ((first | (refine anyH_free (i := 4) (v := ?_) rfl (by kernel_rfl) (fun _ _ _ h => h) (Or.inl ⟨rfl, fun w' hS => ?_⟩) hb0 ?_; rotate_left; ((have c4 := (H46.out.below hS).rd.1; have hwa := HWA.out); go_simp <;> with_reducible rfl)) | (refine anyH_free (i := 4) (v := undef) rfl (by kernel_rfl) (fun _ _ _ h => h) (Or.inr ⟨rfl, rfl⟩) hb0 ?_)); (simp only [Act.put, List.setIfInBounds_toArray, List.set_cons_zero, List.set_cons_succ])); ((first | (refine anyH_free (i := 5) (v := ?_) rfl (by kernel_rfl) (fun _ _ _ h => h) (Or.inl ⟨rfl, fun w' hS => ?_⟩) hb0 ?_; rotate_left; ((have c4 := (H46.out.below hS).rd.1; have hwa := HWA.out); go_simp <;> with_reducible rfl)) | (refine anyH_free (i := 5) (v := undef) rfl (by kernel_rfl) (fun _ _ _ h => h) (Or.inr ⟨rfl, rfl⟩) hb0 ?_)); (simp only [Act.put, List.setIfInBounds_toArray, List.set_cons_zero, List.set_cons_succ])); ((first | (refine anyH_free (i := 7) (v := ?_) rfl (by kernel_rfl) (fun _ _ _ h => h) (Or.inl ⟨rfl, fun w' hS => ?_⟩) hb0 ?_; rotate_left; ((have c4 := (H46.out.below hS).rd.1; have hwa := HWA.out); go_simp <;> with_reducible rfl)) | (refine anyH_free (i := 7) (v := undef) rfl (by kernel_rfl) (fun _ _ _ h => h) (Or.inr ⟨rfl, rfl⟩) hb0 ?_)); (simp only [Act.put, List.setIfInBounds_toArray, List.set_cons_zero, List.set_cons_succ])); ((first | (refine anyH_free (i := 8) (v := ?_) rfl (by kernel_rfl) (fun _ _ _ h => h) (Or.inl ⟨rfl, fun w' hS => ?_⟩) hb0 ?_; rotate_left; ((have c4 := (H46.out.below hS).rd.1; have hwa := HWA.out); go_simp <;> with_reducible rfl)) | (refine anyH_free (i := 8) (v := undef) rfl (by kernel_rfl) (fun _ _ _ h => h) (Or.inr ⟨rfl, rfl⟩) hb0 ?_)); (simp only [Act.put, List.setIfInBounds_toArray, List.set_cons_zero, List.set_cons_succ])); ((first | (refine anyH_free (i := 9) (v := ?_) rfl (by kernel_rfl) (fun _ _ _ h => h) (Or.inl ⟨rfl, fun w' hS => ?_⟩) hb0 ?_; rotate_left; ((have c4 := (H46.out.below hS).rd.1; have hwa := HWA.out); go_simp <;> with_reducible rfl)) | (refine anyH_free (i := 9) (v := undef) rfl (by kernel_rfl) (fun _ _ _ h => h) (Or.inr ⟨rfl, rfl⟩) hb0 ?_)); (simp only [Act.put, List.setIfInBounds_toArray, List.set_cons_zero, List.set_cons_succ])); ((first | (refine anyH_free (i := 10) (v := ?_) rfl (by kernel_rfl) (fun _ _ _ h => h) (Or.inl ⟨rfl, fun w' hS => ?_⟩) hb0 ?_; rotate_left; ((have c4 := (H46.out.below hS).rd.1; have hwa := HWA.out); go_simp <;> with_reducible rfl)) | (refine anyH_free (i := 10) (v := undef) rfl (by kernel_rfl) (fun _ _ _ h => h) (Or.inr ⟨rfl, rfl⟩) hb0 ?_)); (simp only [Act.put, List.setIfInBounds_toArray, List.set_cons_zero, List.set_cons_succ])); ((first | (refine anyH_free (i := 11) (v := ?_) rfl (by kernel_rfl) (fun _ _ _ h => h) (Or.inl ⟨rfl, fun w' hS => ?_⟩) hb0 ?_; rotate_left; ((have c4 := (H46.out.below hS).rd.1; have hwa := HWA.out); go_simp <;> with_reducible rfl)) | (refine anyH_free (i := 11) (v := undef) rfl (by kernel_rfl) (fun _ _ _ h => h) (Or.inr ⟨rfl, rfl⟩) hb0 ?_)); (simp only [Act.put, List.setIfInBounds_toArray, List.set_cons_zero, List.set_cons_succ])); ((first | (refine anyH_free (i := 12) (v := ?_) rfl (by kernel_rfl) (fun _ _ _ h => h) (Or.inl ⟨rfl, fun w' hS => ?_⟩) hb0 ?_; rotate_left; ((have c4 := (H46.out.below hS).rd.1; have hwa := HWA.out); go_simp <;> with_reducible rfl)) | (refine anyH_free (i := 12) (v := undef) rfl (by kernel_rfl) (fun _ _ _ h => h) (Or.inr ⟨rfl, rfl⟩) hb0 ?_)); (simp only [Act.put, List.setIfInBounds_toArray, List.set_cons_zero, List.set_cons_succ]))
        refine anyH_sole (i := 6) rfl (by kernel_rfl) rfl (fun K hK => ?_)
        go_simp
        refine (HD7.out _ hb0).mono ?_
        rintro e w7 ⟨v7, rfl, ho7, hb⟩
        obtain ⟨p7, d7, rfl⟩ := owns_slice ho7
        have hb7 := hb0.trans (hb.mono hb0.size)
        refine hK _ _ hb7 ?_
        clear hK K hb
        refine anyH_sole (i := 13) rfl (by kernel_rfl) rfl (fun K hK => ?_)
        go_simp
        refine (HD8.out _ hb7).mono ?_
        rintro e w8 ⟨v8, rfl, ho8, hb⟩
        obtain ⟨p8, d8, rfl⟩ := owns_slice ho8
        have hb8 := hb7.trans (hb.mono hb7.size)
        refine hK _ _ hb8 ?_
        clear hK K
        ((first | (refine anyH_free (i := 14) (v := ?_) rfl (by kernel_rfl) (fun _ _ _ h => h) (Or.inl ⟨rfl, fun w' hS => ?_⟩) hb8 ?_; rotate_left; (skip; go_simp <;> with_reducible rfl)) | (refine anyH_free (i := 14) (v := undef) rfl (by kernel_rfl) (fun _ _ _ h => h) (Or.inr ⟨rfl, rfl⟩) hb8 ?_)); (simp only [Act.put, List.setIfInBounds_toArray, List.set_cons_zero, List.set_cons_succ])); ((first | (refine anyH_free (i := 15) (v := ?_) rfl (by kernel_rfl) (fun _ _ _ h => h) (Or.inl ⟨rfl, fun w' hS => ?_⟩) hb8 ?_; rotate_left; (skip; go_simp <;> with_reducible rfl)) | (refine anyH_free (i := 15) (v := undef) rfl (by kernel_rfl) (fun _ _ _ h => h) (Or.inr ⟨rfl, rfl⟩) hb8 ?_)); (simp only [Act.put, List.setIfInBounds_toArray, List.set_cons_zero, List.set_cons_succ]))
        refine anyH_done (by kernel_rfl) ?_
        have HN8 := Lib.hid (((Sl.owned encS_len ho7).mono (T := fun _ => True) (fun _ _ _ => trivial)).below hb)
        have HW8 := Lib.hid ((Sl.owned encS_len ho8).mono (T := fun _ => True) (fun _ _ _ => trivial))
        have HD9 := Lib.hid (HD6.out.below hb8)
        have H28 := Lib.hid (H26.out.below hb8)
        have H48 := Lib.hid (H46.out.below hb8)
        have HB8 := Lib.hid (HB6.out.trans (hb8.mono HB6.out.size))
        clear hb0 hb7 hb8 hb ho7 ho8 HD6 HT6 H16 H26 H46 HR6 HB6 HD7 HD8
        go_wp2_with fail
        go_loopw [17, 18, 19, 20] (fun iv_ _ _ _ wr => ∃ i : Nat, iv_ = .int .i64 i ∧ i ≤ l.length ∧ Below w8.heap.size w8 wr) (fun iv_ _ _ _ _ => l.length - (intOf iv_).toNat)
        · exact ⟨0, rfl, by omega, Below.refl _ _⟩
        obtain ⟨i, rfl, hi, hB⟩ := hrel
        have HBI := Lib.hid hB
        clear hB
        by_cases hil : i < l.length
        · obtain ⟨⟨r, by_, st, si, t⟩, hx⟩ : ∃ x, l[i]? = some x := ⟨_, List.getElem?_eq_getElem hil⟩
          obtain ⟨ad, rfl, -, -, hrow⟩ := (H28.out.below HBI.out).at hx
          obtain ⟨-, y1, y2, -⟩ := cells_A hrow hx
          simp only at y1 y2
          have hii : (i : Int) < (l.length : Int) := by omega
          have hbx := H48.out.below HBI.out
          have hyes := HYES.out i _ hx
          have hnot := HNOT.out i _ hx
          simp only at hyes hnot
          have HHW := Lib.hid (has_any (s := by_) (HW8.out.below (HBI.out.drew)) (by omega))
          have HHN := Lib.hid (has_any (s := by_) (HN8.out.below (HBI.out.drew)) (by omega))
          have HHD := Lib.hid (has_any (s := by_) (HD9.out.below (HBI.out.drew)) (by omega))
          obtain ⟨bd, hbd⟩ : ∃ b, hasK KD by_ = b := ⟨_, rfl⟩
          obtain ⟨bn, hbn⟩ : ∃ b, hasK KN by_ = b := ⟨_, rfl⟩
          obtain ⟨bw, hbw⟩ : ∃ b, hasK KW by_ = b := ⟨_, rfl⟩
          rw [hbd] at hyes hnot HHD
          rw [hbn] at hyes hnot HHN
          rw [hbw] at hyes hnot HHW
          have HYS := Lib.hid hyes
          have HNT3 := Lib.hid hnot
          clear hrow hx hyes hnot hbd hbn hbw
          go_wp2_with fail
          refine anyH_start 24 (fun w' => Below wr.heap.size wr w') (by kernel_rfl) rfl ?_
          have hb0 : Below wr.heap.size wr wr.drew := (Below.refl _ wr).drew
          ((first | (refine anyH_free (i := 0) (v := ?_) rfl (by kernel_rfl) (fun _ _ _ h => h) (Or.inl ⟨rfl, fun w' hS => ?_⟩) hb0 ?_; rotate_left; ((have y1 := cell_below y1 hS); go_simp <;> with_reducible rfl)) | (refine anyH_free (i := 0) (v := undef) rfl (by kernel_rfl) (fun _ _ _ h => h) (Or.inr ⟨rfl, rfl⟩) hb0 ?_)); (simp only [Act.put, List.setIfInBounds_toArray, List.set_cons_zero, List.set_cons_succ])); ((first | (refine anyH_free (i := 1) (v := ?_) rfl (by kernel_rfl) (fun _ _ _ h => h) (Or.inl ⟨rfl, fun w' hS => ?_⟩) hb0 ?_; rotate_left; ((have y1 := cell_below y1 hS); go_simp <;> with_reducible rfl)) | (refine anyH_free (i := 1) (v := undef) rfl (by kernel_rfl) (fun _ _ _ h => h) (Or.inr ⟨rfl, rfl⟩) hb0 ?_)); (simp only [Act.put, List.setIfInBounds_toArray, List.set_cons_zero, List.set_cons_succ])); ((first | (refine anyH_free (i := 2) (v := ?_) rfl (by kernel_rfl) (fun _ _ _ h => h) (Or.inl ⟨rfl, fun w' hS => ?_⟩) hb0 ?_; rotate_left; ((have y1 := cell_below y1 hS); go_simp <;> with_reducible rfl)) | (refine anyH_free (i := 2) (v := undef) rfl (by kernel_rfl) (fun _ _ _ h => h) (Or.inr ⟨rfl, rfl⟩) hb0 ?_)); (simp only [Act.put, List.setIfInBounds_toArray, List.set_cons_zero, List.set_cons_succ])); ((first | (refine anyH_free (i := 3) (v := ?_) rfl (by kernel_rfl) (fun _ _ _ h => h) (Or.inl ⟨rfl, fun w' hS => ?_⟩) hb0 ?_; rotate_left; ((have y1 := cell_below y1 hS); go_simp <;> with_reducible rfl)) | (refine anyH_free (i := 3) (v := undef) rfl (by kernel_rfl) (fun _ _ _ h => h) (Or.inr ⟨rfl, rfl⟩) hb0 ?_)); (simp only [Act.put, List.setIfInBounds_toArray, List.set_cons_zero, List.set_cons_succ])); ((first | (refine anyH_free (i := 4) (v := ?_) rfl (by kernel_rfl) (fun _ _ _ h => h) (Or.inl ⟨rfl, fun w' hS => ?_⟩) hb0 ?_; rotate_left; ((have y1 := cell_below y1 hS); go_simp <;> with_reducible rfl)) | (refine anyH_free (i := 4) (v := undef) rfl (by kernel_rfl) (fun _ _ _ h => h) (Or.inr ⟨rfl, rfl⟩) hb0 ?_)); (simp only [Act.put, List.setIfInBounds_toArray, List.set_cons_zero, List.set_cons_succ])); ((first | (refine anyH_free (i := 5) (v := ?_) rfl (by kernel_rfl) (fun _ _ _ h => h) (Or.inl ⟨rfl, fun w' hS => ?_⟩) hb0 ?_; rotate_left; ((have y1 := cell_below y1 hS); go_simp <;> with_reducible rfl)) | (refine anyH_free (i := 5) (v := undef) rfl (by kernel_rfl) (fun _ _ _ h => h) (Or.inr ⟨rfl, rfl⟩) hb0 ?_)); (simp only [Act.put, List.setIfInBounds_toArray, List.set_cons_zero, List.set_cons_succ])); ((first | (refine anyH_free (i := 7) (v := ?_) rfl (by kernel_rfl) (fun _ _ _ h => h) (Or.inl ⟨rfl, fun w' hS => ?_⟩) hb0 ?_; rotate_left; ((have y1 := cell_below y1 hS); go_simp <;> with_reducible rfl)) | (refine anyH_free (i := 7) (v := undef) rfl (by kernel_rfl) (fun _ _ _ h => h) (Or.inr ⟨rfl, rfl⟩) hb0 ?_)); (simp only [Act.put, List.setIfInBounds_toArray, List.set_cons_zero, List.set_cons_succ])); ((first | (refine anyH_free (i := 8) (v := ?_) rfl (by kernel_rfl) (fun _ _ _ h => h) (Or.inl ⟨rfl, fun w' hS => ?_⟩) hb0 ?_; rotate_left; ((have y1 := cell_below y1 hS); go_simp <;> with_reducible rfl)) | (refine anyH_free (i := 8) (v := undef) rfl (by kernel_rfl) (fun _ _ _ h => h) (Or.inr ⟨rfl, rfl⟩) hb0 ?_)); (simp only [Act.put, List.setIfInBounds_toArray, List.set_cons_zero, List.set_cons_succ])); ((first | (refine anyH_free (i := 9) (v := ?_) rfl (by kernel_rfl) (fun _ _ _ h => h) (Or.inl ⟨rfl, fun w' hS => ?_⟩) hb0 ?_; rotate_left; ((have y1 := cell_below y1 hS); go_simp <;> with_reducible rfl)) | (refine anyH_free (i := 9) (v := undef) rfl (by kernel_rfl) (fun _ _ _ h => h) (Or.inr ⟨rfl, rfl⟩) hb0 ?_)); (simp only [Act.put, List.setIfInBounds_toArray, List.set_cons_zero, List.set_cons_succ])); ((first | (refine anyH_free (i := 10) (v := ?_) rfl (by kernel_rfl) (fun _ _ _ h => h) (Or.inl ⟨rfl, fun w' hS => ?_⟩) hb0 ?_; rotate_left; ((have y1 := cell_below y1 hS); go_simp <;> with_reducible rfl)) | (refine anyH_free (i := 10) (v := undef) rfl (by kernel_rfl) (fun _ _ _ h => h) (Or.inr ⟨rfl, rfl⟩) hb0 ?_)); (simp only [Act.put, List.setIfInBounds_toArray, List.set_cons_zero, List.set_cons_succ])); ((first | (refine anyH_free (i := 11) (v := ?_) rfl (by kernel_rfl) (fun _ _ _ h => h) (Or.inl ⟨rfl, fun w' hS => ?_⟩) hb0 ?_; rotate_left; ((have y1 := cell_below y1 hS); go_simp <;> with_reducible rfl)) | (refine anyH_free (i := 11) (v := undef) rfl (by kernel_rfl) (fun _ _ _ h => h) (Or.inr ⟨rfl, rfl⟩) hb0 ?_)); (simp only [Act.put, List.setIfInBounds_toArray, List.set_cons_zero, List.set_cons_succ])); ((first | (refine anyH_free (i := 12) (v := ?_) rfl (by kernel_rfl) (fun _ _ _ h => h) (Or.inl ⟨rfl, fun w' hS => ?_⟩) hb0 ?_; rotate_left; ((have y1 := cell_below y1 hS); go_simp <;> with_reducible rfl)) | (refine anyH_free (i := 12) (v := undef) rfl (by kernel_rfl) (fun _ _ _ h => h) (Or.inr ⟨rfl, rfl⟩) hb0 ?_)); (simp only [Act.put, List.setIfInBounds_toArray, List.set_cons_zero, List.set_cons_succ])); ((first | (refine anyH_free (i := 14) (v := ?_) rfl (by kernel_rfl) (fun _ _ _ h => h) (Or.inl ⟨rfl, fun w' hS => ?_⟩) hb0 ?_; rotate_left; ((have y1 := cell_below y1 hS); go_simp <;> with_reducible rfl)) | (refine anyH_free (i := 14) (v := undef) rfl (by kernel_rfl) (fun _ _ _ h => h) (Or.inr ⟨rfl, rfl⟩) hb0 ?_)); (simp only [Act.put, List.setIfInBounds_toArray, List.set_cons_zero, List.set_cons_succ])); ((first | (refine anyH_free (i := 15) (v := ?_) rfl (by kernel_rfl) (fun _ _ _ h => h) (Or.inl ⟨rfl, fun w' hS => ?_⟩) hb0 ?_; rotate_left; ((have y1 := cell_below y1 hS); go_simp <;> with_reducible rfl)) | (refine anyH_free (i := 15) (v := undef) rfl (by kernel_rfl) (fun _ _ _ h => h) (Or.inr ⟨rfl, rfl⟩) hb0 ?_)); (simp only [Act.put, List.setIfInBounds_toArray, List.set_cons_zero, List.set_cons_succ])); ((first | (refine anyH_free (i := 16) (v := ?_) rfl (by kernel_rfl) (fun _ _ _ h => h) (Or.inl ⟨rfl, fun w' hS => ?_⟩) hb0 ?_; rotate_left; ((have y1 := cell_below y1 hS); go_simp <;> with_reducible rfl)) | (refine anyH_free (i := 16) (v := undef) rfl (by kernel_rfl) (fun _ _ _ h => h) (Or.inr ⟨rfl, rfl⟩) hb0 ?_)); (simp only [Act.put, List.setIfInBounds_toArray, List.set_cons_zero, List.set_cons_succ])); ((first | (refine anyH_free (i := 17) (v := ?_) rfl (by kernel_rfl) (fun _ _ _ h => h) (Or.inl ⟨rfl, fun w' hS => ?_⟩) hb0 ?_; rotate_left; ((have y1 := cell_below y1 hS); go_simp <;> with_reducible rfl)) | (refine anyH_free (i := 17) (v := undef) rfl (by kernel_rfl) (fun _ _ _ h => h) (Or.inr ⟨rfl, rfl⟩) hb0 ?_)); (simp only [Act.put, List.setIfInBounds_toArray, List.set_cons_zero, List.set_cons_succ])); ((first | (refine anyH_free (i := 18) (v := ?_) rfl (by kernel_rfl) (fun _ _ _ h => h) (Or.inl ⟨rfl, fun w' hS => ?_⟩) hb0 ?_; rotate_left; ((have y1 := cell_below y1 hS); go_simp <;> with_reducible rfl)) | (refine anyH_free (i := 18) (v := undef) rfl (by kernel_rfl) (fun _ _ _ h => h) (Or.inr ⟨rfl, rfl⟩) hb0 ?_)); (simp only [Act.put, List.setIfInBounds_toArray, List.set_cons_zero, List.set_cons_succ])); ((first | (refine anyH_free (i := 19) (v := ?_) rfl (by kernel_rfl) (fun _ _ _ h => h) (Or.inl ⟨rfl, fun w' hS => ?_⟩) hb0 ?_; rotate_left; ((have y1 := cell_below y1 hS); go_simp <;> with_reducible rfl)) | (refine anyH_free (i := 19) (v := undef) rfl (by kernel_rfl) (fun _ _ _ h => h) (Or.inr ⟨rfl, rfl⟩) hb0 ?_)); (simp only [Act.put, List.setIfInBounds_toArray, List.set_cons_zero, List.set_cons_succ]))
          refine anyH_sole (i := 6) rfl (by kernel_rfl) rfl (fun K hK => ?_)
          go_simp
          refine HHW.out.mono ?_
          rintro e w9 ⟨rfl, rfl⟩
          refine hK _ _ hb0 ?_
          clear hK K
          refine anyH_sole (i := 13) rfl (by kernel_rfl) rfl (fun K hK => ?_)
          go_simp
          refine HHN.out.mono ?_
          rintro e w9 ⟨rfl, rfl⟩
          refine hK _ _ hb0 ?_
          clear hK K
          refine anyH_sole (i := 20) rfl (by kernel_rfl) rfl (fun K hK => ?_)
          go_simp
          refine HHD.out.mono ?_
          rintro e w9 ⟨rfl, rfl⟩
          refine hK _ _ hb0 ?_
          clear hK K
          ((first | (refine anyH_free (i := 21) (v := ?_) rfl (by kernel_rfl) (fun _ _ _ h => h) (Or.inl ⟨rfl, fun w' hS => ?_⟩) hb0 ?_; rotate_left; (skip; go_simp <;> with_reducible rfl)) | (refine anyH_free (i := 21) (v := undef) rfl (by kernel_rfl) (fun _ _ _ h => h) (Or.inr ⟨rfl, rfl⟩) hb0 ?_)); (simp only [Act.put, List.setIfInBounds_toArray, List.set_cons_zero, List.set_cons_succ])); ((first | (refine anyH_free (i := 22) (v := ?_) rfl (by kernel_rfl) (fun _ _ _ h => h) (Or.inl ⟨rfl, fun w' hS => ?_⟩) hb0 ?_; rotate_left; (skip; go_simp <;> with_reducible rfl)) | (refine anyH_free (i := 22) (v := undef) rfl (by kernel_rfl) (fun _ _ _ h => h) (Or.inr ⟨rfl, rfl⟩) hb0 ?_)); (simp only [Act.put, List.setIfInBounds_toArray, List.set_cons_zero, List.set_cons_succ])); ((first | (refine anyH_free (i := 23) (v := ?_) rfl (by kernel_rfl) (fun _ _ _ h => h) (Or.inl ⟨rfl, fun w' hS => ?_⟩) hb0 ?_; rotate_left; (skip; go_simp <;> with_reducible rfl)) | (refine anyH_free (i := 23) (v := undef) rfl (by kernel_rfl) (fun _ _ _ h => h) (Or.inr ⟨rfl, rfl⟩) hb0 ?_)); (simp only [Act.put, List.setIfInBounds_toArray, List.set_cons_zero, List.set_cons_succ]))
          refine anyH_done (by kernel_rfl) ?_
          have c4 := (hbx.below hb0).rd.1
          have y2 := cell_below y2 hb0
          have HB9 := Lib.hid HBI.out.drew
          clear hbx hb0 y1 HHW HHN HHD
          cases bd with
          | false =>
            obtain rfl : bn = bw := HNT3.out rfl
            cases bn with
            | false =>
              go_wp2_with fail
              exact ⟨⟨i + 1, by simp, by omega, HB9.out⟩, by simp [intOf]; omega⟩
            | true =>
              go_wp2_with fail
              exact ⟨⟨i + 1, by simp, by omega, HB9.out⟩, by simp [intOf]; omega⟩
          | true =>
            obtain ⟨hq1, hq2⟩ := HYS.out rfl
            subst hq1 hq2
            cases bw with
            | false =>
              go_wp2_with fail
              exact ⟨⟨i + 1, by simp, by omega, HB9.out⟩, by simp [intOf]; omega⟩
            | true =>
              rcases Int.lt_or_le more rp with hm | hm
              · have hd : decide (rp ≤ more) = false := by simpa using hm
                rw [hd]
                go_wp2_with fail
                exact ⟨⟨i + 1, by simp, by omega, HB9.out⟩, by simp [intOf]; omega⟩
              · have hd : decide (rp ≤ more) = true := by simpa using hm
                rw [hd]
                go_wp2_with fail
                exact ⟨⟨i + 1, by simp, by omega, HB9.out⟩, by simp [intOf]; omega⟩
        · obtain rfl : i = l.length := by omega
          have HF := Lib.hid (HB8.out.trans (HBI.out.mono HB8.out.size))
          go_wp2_with fail
          go_ret
          exact ⟨rfl, HF.out⟩
end Go.Proofs.Ytajflljemfgkiaa
