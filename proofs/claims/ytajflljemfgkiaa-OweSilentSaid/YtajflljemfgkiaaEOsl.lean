/- OweSilent's walk -/
import Derived.Test.YtajflljemfgkiaaEAwk
import Derived.Test.YtajflljemfgkiaaEPl2
import Derived.Test.YtajflljemfgkiaaEFun
import Derived.Test.YtajflljemfgkiaaMutB
namespace Go.Proofs.Ytajflljemfgkiaa
open Go.RowKit Mut
attribute [local go_sem] Oper.semAt_some
set_option maxRecDepth 100000 in
set_option maxHeartbeats 4000000 in
theorem oweSilent_any {R : Rl} {at_ : Int} {v1 v2 : Value} {ms : List MuteD} {l : List Al} {w : World} (hrn : Ro (fun _ => True) w R ∧ ∃ a n c, R.nodes = .slice a n c) (h1 : Sl (fun _ => True) w v1 10 encU ms) (h2 : Sl (fun _ => True) w v2 5 encA l) (_ : (Lit.int .i64 at_).wf = true) :
    Calls Try.prog 6 #[rv R, v1, v2, .int .i64 at_] w (Tells (.bool true) w) := by
  obtain ⟨hr, na, nn, nc, hnodes⟩ := hrn
  have hnv := hr.n
  obtain ⟨pv, cv, hmve, -, -⟩ := hr.m.len
  have hmv := hr.m.oneCell
  have hb0 : Below w.heap.size w (w.alloc (.cells (rc R) 25)) := (Below.refl _ w).alloc (Nat.le_refl _) _
  have b4 := Box.new w (rc R) 25
  have hr0 : Ro (fun _ => True) (w.alloc (.cells (rc R) 25)) R := ⟨hr.m.below hb0, hr.n⟩
  have H1 := Lib.hid (h1.below hb0)
  have H2 := Lib.hid (h2.below hb0)
  obtain ⟨p1, c1, rfl, -, -⟩ := h1.len
  obtain ⟨p2, c2, rfl, -, -⟩ := h2.len
  obtain ⟨W0, hW0⟩ : ∃ W0, (w.alloc (.cells (rc R) 25)) = W0 := ⟨_, rfl⟩
  rw [hW0] at hb0 b4 H1 H2 hr0
  have HW0 := Lib.hid hW0
  have HB0 := Lib.hid hb0
  have H4 := Lib.hid b4
  have HR := Lib.hid hr0
  obtain ⟨nm, by0, nv, fr, ev, rp, mvv, mu, rt⟩ := R
  simp only at hnv hmv hnodes hmve
  subst hnodes hmve
  have c4 := b4.rd.1
  clear hr h1 h2 hb0 b4 hr0 hW0
  go_enter Try.func6, Try.ntmps6
  go_wp2_with fail
  rw [HW0.out]
  refine (awake_any W0).mono ?_
  rintro e wa ⟨rfl, hb⟩
  have HBA := Lib.hid (HB0.out.trans (hb.mono HB0.out.size))
  have H1A := Lib.hid (H1.out.below hb)
  have H2A := Lib.hid (H2.out.below hb)
  have H4A := Lib.hid (H4.out.below hb)
  have HRA : Hid (Ro (fun _ => True) wa ⟨nm, by0, .slice na nn nc, fr, ev, rp, .slice pv mu.length cv, mu, rt⟩) := Lib.hid ⟨HR.out.m.below hb, HR.out.n⟩
  have HGR := Lib.hid (great_any (keys := []) (v4 := .slice none 0 0) HRA.out H1A.out H2A.out (Sl.nil (fun _ => True) wa))
  clear hb c4 H1 H2 H4 HR HB0
  have c4 := H4A.out.rd.1
  go_wp2_with fail
  refine HGR.out.mono ?_
  rintro e w1 ⟨bg, rfl, hbg, hb⟩
  have HB1 := Lib.hid (HBA.out.trans (hb.mono HBA.out.size))
  cases bg with
  | true =>
    clear hbg hb c4
    go_wp2_with fail
    go_ret
    exact ⟨rfl, HB1.out⟩
  | false =>
    obtain ⟨⟨g1, -, g3, g4⟩, g5, -, -, -⟩ := hbg rfl
    simp only at g4
    have H11 := Lib.hid (H1A.out.below hb)
    have H21 := Lib.hid (H2A.out.below hb)
    have H41 := Lib.hid (H4A.out.below hb)
    have HR1 : Hid (Ro (fun _ => True) w1 ⟨nm, by0, .slice na nn nc, fr, ev, rp, .slice pv mu.length cv, mu, rt⟩) := Lib.hid ⟨HRA.out.m.below hb, HRA.out.n⟩
    have HS1 : Hid (∀ x ∈ l, x.by_.size ≤ maxLen) := Lib.hid fun x hx => by have := g5 x hx; unfold maxLen; omega
    have HNE := Lib.hid (near_any (R := ⟨nm, by0, .slice na nn nc, fr, ev, rp, .slice pv mu.length cv, mu, rt⟩) (at_ := at_) H21.out (by omega) hnv hmv)
    clear hbg hb g5 HGR H1A H2A H4A HRA c4
    have c4 := H41.out.rd.1
    go_wp2_with fail
    refine HNE.out.mono ?_
    rintro e w2 ⟨bn, rfl, hbn, hb⟩
    have HB2 := Lib.hid (HB1.out.trans (hb.mono HB1.out.size))
    cases bn with
    | false =>
      clear hbn hb c4
      go_wp2_with fail
      go_ret
      exact ⟨rfl, HB2.out⟩
    | true =>
      have HNP := Lib.hid (hbn rfl)
      have H12 := Lib.hid (H11.out.below hb)
      have H22 := Lib.hid (H21.out.below hb)
      have H42 := Lib.hid (H41.out.below hb)
      have HR2 : Hid (Ro (fun _ => True) w2 ⟨nm, by0, .slice na nn nc, fr, ev, rp, .slice pv mu.length cv, mu, rt⟩) := Lib.hid ⟨HR1.out.m.below hb, HR1.out.n⟩
      have HDA : Hid (∀ W, Below w2.heap.size w2 W → Calls Try.prog 21 #[rv ⟨nm, by0, .slice na nn nc, fr, ev, rp, .slice none 0 0, [], rt⟩, .slice p1 ms.length c1, .slice p2 l.length c2, .int .i64 at_] W (DueTo (dueL ⟨nm, by0, .slice na nn nc, fr, ev, rp, .slice none 0 0, [], rt⟩ ms l at_) W)) := Lib.hid fun W hb' => due_any (R := ⟨nm, by0, .slice na nn nc, fr, ev, rp, .slice none 0 0, [], rt⟩) ⟨Sl.nil (fun _ => True) W, HR2.out.n⟩ (H12.out.below hb') (H22.out.below hb') (by omega) (by simp) (by omega) HS1.out HNP.out
      clear hbn hb HNE H11 H21 H41 HR1 c4 HB1
      have c4 := H42.out.rd.1
      go_wp2_with fail
      have hb3 : Below w2.heap.size w2 (w2.alloc (.cells (rc ⟨nm, by0, .slice na nn nc, fr, ev, rp, .slice none 0 0, [], rt⟩) 25)) := (Below.refl _ w2).alloc (Nat.le_refl _) _
      refine (HDA.out _ hb3).mono ?_
      rintro e w3 ⟨va, rfl, hoa, hb⟩
      rw [show dueL ⟨nm, by0, .slice na nn nc, fr, ev, rp, .slice none 0 0, [], rt⟩ ms l at_ = dueK rp l at_ from rfl] at hoa
      obtain ⟨KA, hKA⟩ : ∃ KA, dueK rp l at_ = KA := ⟨_, rfl⟩
      rw [hKA] at hoa
      obtain ⟨pa, ca, rfl⟩ := owns_slice hoa
      have HKA := Lib.hid hKA
      have hkl : KA.length ≤ 200 := by
        rw [← hKA]
        have := dueK_len rp at_ l
        omega
      have hb23 := below_then hb3 hb
      have HAL := Lib.hid ((Sl.owned encS_len hoa).mono (T := fun _ => True) (fun _ _ _ => trivial))
      have H13 := Lib.hid (H12.out.below hb23)
      have H23 := Lib.hid (H22.out.below hb23)
      have H43 := Lib.hid (H42.out.below hb23)
      have HR3 : Hid (Ro (fun _ => True) w3 ⟨nm, by0, .slice na nn nc, fr, ev, rp, .slice pv mu.length cv, mu, rt⟩) := Lib.hid ⟨HR2.out.m.below hb23, HR2.out.n⟩
      have HB3 := Lib.hid (HB2.out.trans (hb23.mono HB2.out.size))
      have HDB := Lib.hid (due_any (ms := []) HR3.out (Sl.nil (fun _ => True) w3) H23.out (by simp) (by simp only; omega) (by omega) HS1.out HNP.out)
      clear hb3 hb hoa hKA hb23 HDA c4 H12 H22 H42 HR2 HB2
      have c4 := H43.out.rd.1
      go_wp2_with fail
      refine HDB.out.mono ?_
      rintro e w4 ⟨v4, rfl, ho4, hb⟩
      have hn4 : dueL ⟨nm, by0, .slice na nn nc, fr, ev, rp, .slice pv mu.length cv, mu, rt⟩ [] l at_ = KA := by
        rw [← HKA.out]
        unfold dueL
        rw [if_neg (by rw [mutedB_hit]; simp [hitB])]
      rw [hn4] at ho4
      obtain ⟨p4, c4', rfl⟩ := owns_slice ho4
      have HAL4 := Lib.hid (HAL.out.below hb)
      have H14 := Lib.hid (H13.out.below hb)
      have H24 := Lib.hid (H23.out.below hb)
      have H44 := Lib.hid (H43.out.below hb)
      have HR4 : Hid (Ro (fun _ => True) w4 ⟨nm, by0, .slice na nn nc, fr, ev, rp, .slice pv mu.length cv, mu, rt⟩) := Lib.hid ⟨HR3.out.m.below hb, HR3.out.n⟩
      have HB4 := Lib.hid (HB3.out.trans (hb.mono HB3.out.size))
      have HSN := Lib.hid (sameNames_any (S := fun _ => True) ((Sl.owned encS_len ho4).mono (fun _ _ _ => trivial)) HAL4.out (by omega))
      clear hb ho4 hn4 HDB c4 HAL H13 H23 H43 HR3 HB3
      go_wp2_with fail
      refine HSN.out.mono ?_
      rintro e w5 ⟨rfl, hb⟩
      have HAL5 := Lib.hid (HAL4.out.below hb)
      have H15 := Lib.hid (H14.out.below hb)
      have H25 := Lib.hid (H24.out.below hb)
      have H45 := Lib.hid (H44.out.below hb)
      have HR5 : Hid (Ro (fun _ => True) w5 ⟨nm, by0, .slice na nn nc, fr, ev, rp, .slice pv mu.length cv, mu, rt⟩) := Lib.hid ⟨HR4.out.m.below hb, HR4.out.n⟩
      have HB5 := Lib.hid (HB4.out.trans (hb.mono HB4.out.size))
      clear hb HSN HAL4 H14 H24 H44 HR4 HB4
      go_wp2_with fail
      go_loopw [11, 12, 13] (fun fv_ iv_ _ wr => ∃ (i : Nat) (f : Bool), fv_ = .bool f ∧ iv_ = .int .i64 i ∧ i ≤ ms.length ∧ f = silB (ms.take i) mu at_ ∧ ((ms.take i).map MuteD.nm).Nodup ∧ Below w5.heap.size w5 wr) (fun _ iv_ _ _ => ms.length - (intOf iv_).toNat)
      · exact ⟨0, false, rfl, rfl, by omega, by simp [silB], by simp, Below.refl _ _⟩
      obtain ⟨i, f, rfl, rfl, hi, hf, hnd, hB⟩ := hrel
      obtain ⟨Wo, hWo⟩ : ∃ Wo, Wo = wr := ⟨_, rfl⟩
      rw [← hWo] at hB ⊢
      clear hWo wr
      have HF := Lib.hid hf
      have HND := Lib.hid hnd
      have HB := Lib.hid hB
      clear hf hnd hB
      by_cases hil : i < ms.length
      · obtain ⟨x, hx⟩ : ∃ x, ms[i]? = some x := ⟨_, List.getElem?_eq_getElem hil⟩
        have hii : (i : Int) < (ms.length : Int) := by omega
        have HX := Lib.hid hx
        clear hx
        go_wp2_with fail
        go_loopw [13] (fun kv_ wr => ∃ k : Nat, kv_ = .int .i64 k ∧ k ≤ i ∧ (∀ y ∈ ms.take k, y.nm ≠ x.nm) ∧ Below w5.heap.size w5 wr) (fun kv_ _ => i - (intOf kv_).toNat)
        · exact ⟨0, rfl, by omega, (fun y hy => by simp at hy), HB.out⟩
        obtain ⟨k, rfl, hk, hf, hB⟩ := hrel
        have HFK := Lib.hid hf
        have HBK := Lib.hid hB
        clear hf hB
        by_cases hki : k < i
        · obtain ⟨y, hy⟩ : ∃ y, ms[k]? = some y := ⟨_, List.getElem?_eq_getElem (by omega)⟩
          obtain ⟨ad, rfl, -, -, hrow⟩ := (H15.out.below HBK.out).at HX.out
          obtain ⟨x0, -⟩ := cells_U hrow HX.out
          obtain ⟨y0, -⟩ := cells_U hrow hy
          have HY := Lib.hid hy
          obtain ⟨sx, hsx⟩ : ∃ s, x.nm = s := ⟨_, rfl⟩
          obtain ⟨sy, hsy⟩ : ∃ s, y.nm = s := ⟨_, rfl⟩
          have HSX := Lib.hid hsx
          have HSY := Lib.hid hsy
          rw [hsx] at x0
          rw [hsy] at y0
          have hkk : (k : Int) < (i : Int) := by omega
          have hkl2 : (k : Int) < (ms.length : Int) := by omega
          clear hrow hy hsx hsy
          by_cases hq : sy = sx
          · subst hq
            have hse := str_eq sy
            go_wp2_with fail
            refine wp_region_ordH [0, 1, 2, 3, 4, 5, 6, 7, 8, 9, 10] (fun w' => Below wr.heap.size wr w') (by kernel_rfl) (by kernel_rfl) ?_
            have hb0 : Below wr.heap.size wr wr.drew := (Below.refl _ wr).drew
            iterate 11 ((first | (refine ordH_free (v := ?_) rfl (by kernel_rfl) (fun _ _ _ h => h) (Or.inl ⟨rfl, fun w' hS => ?_⟩) hb0 ?_; rotate_left; (have x0 := cell_below x0 hS; have y0 := cell_below y0 hS; go_simp <;> with_reducible rfl)) | (refine ordH_free (v := undef) rfl (by kernel_rfl) (fun _ _ _ h => h) (Or.inr ⟨rfl, rfl⟩) hb0 ?_)); (simp only [Act.put, List.setIfInBounds_toArray, List.set_cons_zero, List.set_cons_succ]))
            refine ⟨by kernel_rfl, ?_⟩
            have HB8 := Lib.hid (HB5.out.trans (HBK.out.drew.mono HB5.out.size))
            clear x0 y0 hb0 hse
            go_wp2_with fail
            go_ret
            exact ⟨rfl, HB8.out⟩
          · have hse := str_ne hq
            have HQ := Lib.hid hq
            clear hq
            go_wp2_with fail
            refine wp_region_ordH [0, 1, 2, 3, 4, 5, 6, 7, 8, 9, 10] (fun w' => Below wr.heap.size wr w') (by kernel_rfl) (by kernel_rfl) ?_
            have hb0 : Below wr.heap.size wr wr.drew := (Below.refl _ wr).drew
            iterate 11 ((first | (refine ordH_free (v := ?_) rfl (by kernel_rfl) (fun _ _ _ h => h) (Or.inl ⟨rfl, fun w' hS => ?_⟩) hb0 ?_; rotate_left; (have x0 := cell_below x0 hS; have y0 := cell_below y0 hS; go_simp <;> with_reducible rfl)) | (refine ordH_free (v := undef) rfl (by kernel_rfl) (fun _ _ _ h => h) (Or.inr ⟨rfl, rfl⟩) hb0 ?_)); (simp only [Act.put, List.setIfInBounds_toArray, List.set_cons_zero, List.set_cons_succ]))
            refine ⟨by kernel_rfl, ?_⟩
            have HB8 := Lib.hid (HBK.out.drew)
            have HFN := Lib.hid (all_snoc HFK.out HY.out (show y.nm ≠ x.nm by rw [HSX.out, HSY.out]; exact HQ.out))
            clear x0 y0 hb0 hse
            go_wp2_with fail
            exact ⟨⟨k + 1, by simp, by omega, HFN.out, HB8.out⟩, by simp [intOf]; omega⟩
        · obtain rfl : k = i := by omega
          have HNN : Hid (((ms.take (k + 1)).map MuteD.nm).Nodup) := Lib.hid (by
            rw [take_snoc' HX.out, List.map_append]
            refine List.nodup_append.2 ⟨HND.out, by simp, fun a ha b hb e => ?_⟩
            obtain ⟨y, hy, rfl⟩ := List.mem_map.1 ha
            obtain rfl := List.mem_singleton.1 hb
            exact HFK.out y hy e)
          have HSN : Hid (silB (ms.take (k + 1)) mu at_ = (silB (ms.take k) mu at_ || (hasK mu x.nm && sil x at_))) := Lib.hid (by
            unfold silB
            rw [take_snoc' HX.out, List.any_append]
            simp)
          obtain ⟨ad, rfl, -, -, hrow⟩ := (H15.out.below HBK.out).at HX.out
          have hxc := cells_U hrow HX.out
          have hrb := H45.out.below HBK.out
          obtain ⟨x0, x1, x2, x3, x4, x5, x6, x7, x8, x9⟩ := hxc
          have HRM := Lib.hid (HR5.out.m.below HBK.out)
          clear hrow
          go_wp2_with fail
          refine anyH_start 20 (fun w' => Below wr.heap.size wr w') (by kernel_rfl) rfl ?_
          have hb0 : Below wr.heap.size wr wr.drew := (Below.refl _ wr).drew
          cases f with
          | true =>
            have HV : Hid (silB (ms.take (k + 1)) mu at_ = true) := Lib.hid (by rw [HSN.out, ← HF.out]; rfl)
            ((first | (refine anyH_free (i := 0) (v := ?_) rfl (by kernel_rfl) (fun _ _ _ h => h) (Or.inl ⟨rfl, fun w' hS => ?_⟩) hb0 ?_; rotate_left; (skip; go_simp <;> with_reducible rfl)) | (refine anyH_free (i := 0) (v := undef) rfl (by kernel_rfl) (fun _ _ _ h => h) (Or.inr ⟨rfl, rfl⟩) hb0 ?_)); (simp only [Act.put, List.setIfInBounds_toArray, List.set_cons_zero, List.set_cons_succ])); ((first | (refine anyH_free (i := 1) (v := ?_) rfl (by kernel_rfl) (fun _ _ _ h => h) (Or.inl ⟨rfl, fun w' hS => ?_⟩) hb0 ?_; rotate_left; (skip; go_simp <;> with_reducible rfl)) | (refine anyH_free (i := 1) (v := undef) rfl (by kernel_rfl) (fun _ _ _ h => h) (Or.inr ⟨rfl, rfl⟩) hb0 ?_)); (simp only [Act.put, List.setIfInBounds_toArray, List.set_cons_zero, List.set_cons_succ])); ((first | (refine anyH_free (i := 2) (v := ?_) rfl (by kernel_rfl) (fun _ _ _ h => h) (Or.inl ⟨rfl, fun w' hS => ?_⟩) hb0 ?_; rotate_left; (skip; go_simp <;> with_reducible rfl)) | (refine anyH_free (i := 2) (v := undef) rfl (by kernel_rfl) (fun _ _ _ h => h) (Or.inr ⟨rfl, rfl⟩) hb0 ?_)); (simp only [Act.put, List.setIfInBounds_toArray, List.set_cons_zero, List.set_cons_succ])); ((first | (refine anyH_free (i := 3) (v := ?_) rfl (by kernel_rfl) (fun _ _ _ h => h) (Or.inl ⟨rfl, fun w' hS => ?_⟩) hb0 ?_; rotate_left; (skip; go_simp <;> with_reducible rfl)) | (refine anyH_free (i := 3) (v := undef) rfl (by kernel_rfl) (fun _ _ _ h => h) (Or.inr ⟨rfl, rfl⟩) hb0 ?_)); (simp only [Act.put, List.setIfInBounds_toArray, List.set_cons_zero, List.set_cons_succ])); ((first | (refine anyH_free (i := 4) (v := ?_) rfl (by kernel_rfl) (fun _ _ _ h => h) (Or.inl ⟨rfl, fun w' hS => ?_⟩) hb0 ?_; rotate_left; (skip; go_simp <;> with_reducible rfl)) | (refine anyH_free (i := 4) (v := undef) rfl (by kernel_rfl) (fun _ _ _ h => h) (Or.inr ⟨rfl, rfl⟩) hb0 ?_)); (simp only [Act.put, List.setIfInBounds_toArray, List.set_cons_zero, List.set_cons_succ])); ((first | (refine anyH_free (i := 5) (v := ?_) rfl (by kernel_rfl) (fun _ _ _ h => h) (Or.inl ⟨rfl, fun w' hS => ?_⟩) hb0 ?_; rotate_left; (skip; go_simp <;> with_reducible rfl)) | (refine anyH_free (i := 5) (v := undef) rfl (by kernel_rfl) (fun _ _ _ h => h) (Or.inr ⟨rfl, rfl⟩) hb0 ?_)); (simp only [Act.put, List.setIfInBounds_toArray, List.set_cons_zero, List.set_cons_succ])); ((first | (refine anyH_free (i := 6) (v := ?_) rfl (by kernel_rfl) (fun _ _ _ h => h) (Or.inl ⟨rfl, fun w' hS => ?_⟩) hb0 ?_; rotate_left; (skip; go_simp <;> with_reducible rfl)) | (refine anyH_free (i := 6) (v := undef) rfl (by kernel_rfl) (fun _ _ _ h => h) (Or.inr ⟨rfl, rfl⟩) hb0 ?_)); (simp only [Act.put, List.setIfInBounds_toArray, List.set_cons_zero, List.set_cons_succ])); ((first | (refine anyH_free (i := 7) (v := ?_) rfl (by kernel_rfl) (fun _ _ _ h => h) (Or.inl ⟨rfl, fun w' hS => ?_⟩) hb0 ?_; rotate_left; (skip; go_simp <;> with_reducible rfl)) | (refine anyH_free (i := 7) (v := undef) rfl (by kernel_rfl) (fun _ _ _ h => h) (Or.inr ⟨rfl, rfl⟩) hb0 ?_)); (simp only [Act.put, List.setIfInBounds_toArray, List.set_cons_zero, List.set_cons_succ])); ((first | (refine anyH_free (i := 8) (v := ?_) rfl (by kernel_rfl) (fun _ _ _ h => h) (Or.inl ⟨rfl, fun w' hS => ?_⟩) hb0 ?_; rotate_left; (skip; go_simp <;> with_reducible rfl)) | (refine anyH_free (i := 8) (v := undef) rfl (by kernel_rfl) (fun _ _ _ h => h) (Or.inr ⟨rfl, rfl⟩) hb0 ?_)); (simp only [Act.put, List.setIfInBounds_toArray, List.set_cons_zero, List.set_cons_succ])); ((first | (refine anyH_free (i := 9) (v := ?_) rfl (by kernel_rfl) (fun _ _ _ h => h) (Or.inl ⟨rfl, fun w' hS => ?_⟩) hb0 ?_; rotate_left; (skip; go_simp <;> with_reducible rfl)) | (refine anyH_free (i := 9) (v := undef) rfl (by kernel_rfl) (fun _ _ _ h => h) (Or.inr ⟨rfl, rfl⟩) hb0 ?_)); (simp only [Act.put, List.setIfInBounds_toArray, List.set_cons_zero, List.set_cons_succ])); ((first | (refine anyH_free (i := 10) (v := ?_) rfl (by kernel_rfl) (fun _ _ _ h => h) (Or.inl ⟨rfl, fun w' hS => ?_⟩) hb0 ?_; rotate_left; (skip; go_simp <;> with_reducible rfl)) | (refine anyH_free (i := 10) (v := undef) rfl (by kernel_rfl) (fun _ _ _ h => h) (Or.inr ⟨rfl, rfl⟩) hb0 ?_)); (simp only [Act.put, List.setIfInBounds_toArray, List.set_cons_zero, List.set_cons_succ])); ((first | (refine anyH_free (i := 11) (v := ?_) rfl (by kernel_rfl) (fun _ _ _ h => h) (Or.inl ⟨rfl, fun w' hS => ?_⟩) hb0 ?_; rotate_left; (skip; go_simp <;> with_reducible rfl)) | (refine anyH_free (i := 11) (v := undef) rfl (by kernel_rfl) (fun _ _ _ h => h) (Or.inr ⟨rfl, rfl⟩) hb0 ?_)); (simp only [Act.put, List.setIfInBounds_toArray, List.set_cons_zero, List.set_cons_succ])); ((first | (refine anyH_free (i := 12) (v := ?_) rfl (by kernel_rfl) (fun _ _ _ h => h) (Or.inl ⟨rfl, fun w' hS => ?_⟩) hb0 ?_; rotate_left; (skip; go_simp <;> with_reducible rfl)) | (refine anyH_free (i := 12) (v := undef) rfl (by kernel_rfl) (fun _ _ _ h => h) (Or.inr ⟨rfl, rfl⟩) hb0 ?_)); (simp only [Act.put, List.setIfInBounds_toArray, List.set_cons_zero, List.set_cons_succ])); ((first | (refine anyH_free (i := 13) (v := ?_) rfl (by kernel_rfl) (fun _ _ _ h => h) (Or.inl ⟨rfl, fun w' hS => ?_⟩) hb0 ?_; rotate_left; (skip; go_simp <;> with_reducible rfl)) | (refine anyH_free (i := 13) (v := undef) rfl (by kernel_rfl) (fun _ _ _ h => h) (Or.inr ⟨rfl, rfl⟩) hb0 ?_)); (simp only [Act.put, List.setIfInBounds_toArray, List.set_cons_zero, List.set_cons_succ])); ((first | (refine anyH_free (i := 14) (v := ?_) rfl (by kernel_rfl) (fun _ _ _ h => h) (Or.inl ⟨rfl, fun w' hS => ?_⟩) hb0 ?_; rotate_left; (skip; go_simp <;> with_reducible rfl)) | (refine anyH_free (i := 14) (v := undef) rfl (by kernel_rfl) (fun _ _ _ h => h) (Or.inr ⟨rfl, rfl⟩) hb0 ?_)); (simp only [Act.put, List.setIfInBounds_toArray, List.set_cons_zero, List.set_cons_succ])); ((first | (refine anyH_free (i := 15) (v := ?_) rfl (by kernel_rfl) (fun _ _ _ h => h) (Or.inl ⟨rfl, fun w' hS => ?_⟩) hb0 ?_; rotate_left; (skip; go_simp <;> with_reducible rfl)) | (refine anyH_free (i := 15) (v := undef) rfl (by kernel_rfl) (fun _ _ _ h => h) (Or.inr ⟨rfl, rfl⟩) hb0 ?_)); (simp only [Act.put, List.setIfInBounds_toArray, List.set_cons_zero, List.set_cons_succ])); ((first | (refine anyH_free (i := 16) (v := ?_) rfl (by kernel_rfl) (fun _ _ _ h => h) (Or.inl ⟨rfl, fun w' hS => ?_⟩) hb0 ?_; rotate_left; (skip; go_simp <;> with_reducible rfl)) | (refine anyH_free (i := 16) (v := undef) rfl (by kernel_rfl) (fun _ _ _ h => h) (Or.inr ⟨rfl, rfl⟩) hb0 ?_)); (simp only [Act.put, List.setIfInBounds_toArray, List.set_cons_zero, List.set_cons_succ])); ((first | (refine anyH_free (i := 17) (v := ?_) rfl (by kernel_rfl) (fun _ _ _ h => h) (Or.inl ⟨rfl, fun w' hS => ?_⟩) hb0 ?_; rotate_left; (skip; go_simp <;> with_reducible rfl)) | (refine anyH_free (i := 17) (v := undef) rfl (by kernel_rfl) (fun _ _ _ h => h) (Or.inr ⟨rfl, rfl⟩) hb0 ?_)); (simp only [Act.put, List.setIfInBounds_toArray, List.set_cons_zero, List.set_cons_succ])); ((first | (refine anyH_free (i := 18) (v := ?_) rfl (by kernel_rfl) (fun _ _ _ h => h) (Or.inl ⟨rfl, fun w' hS => ?_⟩) hb0 ?_; rotate_left; (skip; go_simp <;> with_reducible rfl)) | (refine anyH_free (i := 18) (v := undef) rfl (by kernel_rfl) (fun _ _ _ h => h) (Or.inr ⟨rfl, rfl⟩) hb0 ?_)); (simp only [Act.put, List.setIfInBounds_toArray, List.set_cons_zero, List.set_cons_succ])); ((first | (refine anyH_free (i := 19) (v := ?_) rfl (by kernel_rfl) (fun _ _ _ h => h) (Or.inl ⟨rfl, fun w' hS => ?_⟩) hb0 ?_; rotate_left; (skip; go_simp <;> with_reducible rfl)) | (refine anyH_free (i := 19) (v := undef) rfl (by kernel_rfl) (fun _ _ _ h => h) (Or.inr ⟨rfl, rfl⟩) hb0 ?_)); (simp only [Act.put, List.setIfInBounds_toArray, List.set_cons_zero, List.set_cons_succ]))
            refine anyH_done (by kernel_rfl) ?_
            have HB8 : Hid (Below w5.heap.size w5 wr.drew) := Lib.hid (HBK.out.drew)
            clear hb0 hrb x0 x1 x2 x3 x4 x5 x6 x7 x8 x9
            go_wp2_with fail
            exact ⟨⟨k + 1, true, rfl, by simp, by omega, HV.out.symm, HNN.out, HB8.out⟩, by simp [intOf]; omega⟩
          | false =>
            ((first | (refine anyH_free (i := 0) (v := ?_) rfl (by kernel_rfl) (fun _ _ _ h => h) (Or.inl ⟨rfl, fun w' hS => ?_⟩) hb0 ?_; rotate_left; ((have cx := (hrb.below hS).rd.1; have x0 := cell_below x0 hS); go_simp <;> with_reducible rfl)) | (refine anyH_free (i := 0) (v := undef) rfl (by kernel_rfl) (fun _ _ _ h => h) (Or.inr ⟨rfl, rfl⟩) hb0 ?_)); (simp only [Act.put, List.setIfInBounds_toArray, List.set_cons_zero, List.set_cons_succ])); ((first | (refine anyH_free (i := 1) (v := ?_) rfl (by kernel_rfl) (fun _ _ _ h => h) (Or.inl ⟨rfl, fun w' hS => ?_⟩) hb0 ?_; rotate_left; ((have cx := (hrb.below hS).rd.1; have x0 := cell_below x0 hS); go_simp <;> with_reducible rfl)) | (refine anyH_free (i := 1) (v := undef) rfl (by kernel_rfl) (fun _ _ _ h => h) (Or.inr ⟨rfl, rfl⟩) hb0 ?_)); (simp only [Act.put, List.setIfInBounds_toArray, List.set_cons_zero, List.set_cons_succ])); ((first | (refine anyH_free (i := 2) (v := ?_) rfl (by kernel_rfl) (fun _ _ _ h => h) (Or.inl ⟨rfl, fun w' hS => ?_⟩) hb0 ?_; rotate_left; ((have cx := (hrb.below hS).rd.1; have x0 := cell_below x0 hS); go_simp <;> with_reducible rfl)) | (refine anyH_free (i := 2) (v := undef) rfl (by kernel_rfl) (fun _ _ _ h => h) (Or.inr ⟨rfl, rfl⟩) hb0 ?_)); (simp only [Act.put, List.setIfInBounds_toArray, List.set_cons_zero, List.set_cons_succ])); ((first | (refine anyH_free (i := 3) (v := ?_) rfl (by kernel_rfl) (fun _ _ _ h => h) (Or.inl ⟨rfl, fun w' hS => ?_⟩) hb0 ?_; rotate_left; ((have cx := (hrb.below hS).rd.1; have x0 := cell_below x0 hS); go_simp <;> with_reducible rfl)) | (refine anyH_free (i := 3) (v := undef) rfl (by kernel_rfl) (fun _ _ _ h => h) (Or.inr ⟨rfl, rfl⟩) hb0 ?_)); (simp only [Act.put, List.setIfInBounds_toArray, List.set_cons_zero, List.set_cons_succ])); ((first | (refine anyH_free (i := 4) (v := ?_) rfl (by kernel_rfl) (fun _ _ _ h => h) (Or.inl ⟨rfl, fun w' hS => ?_⟩) hb0 ?_; rotate_left; ((have cx := (hrb.below hS).rd.1; have x0 := cell_below x0 hS); go_simp <;> with_reducible rfl)) | (refine anyH_free (i := 4) (v := undef) rfl (by kernel_rfl) (fun _ _ _ h => h) (Or.inr ⟨rfl, rfl⟩) hb0 ?_)); (simp only [Act.put, List.setIfInBounds_toArray, List.set_cons_zero, List.set_cons_succ])); ((first | (refine anyH_free (i := 5) (v := ?_) rfl (by kernel_rfl) (fun _ _ _ h => h) (Or.inl ⟨rfl, fun w' hS => ?_⟩) hb0 ?_; rotate_left; ((have cx := (hrb.below hS).rd.1; have x0 := cell_below x0 hS); go_simp <;> with_reducible rfl)) | (refine anyH_free (i := 5) (v := undef) rfl (by kernel_rfl) (fun _ _ _ h => h) (Or.inr ⟨rfl, rfl⟩) hb0 ?_)); (simp only [Act.put, List.setIfInBounds_toArray, List.set_cons_zero, List.set_cons_succ])); ((first | (refine anyH_free (i := 6) (v := ?_) rfl (by kernel_rfl) (fun _ _ _ h => h) (Or.inl ⟨rfl, fun w' hS => ?_⟩) hb0 ?_; rotate_left; ((have cx := (hrb.below hS).rd.1; have x0 := cell_below x0 hS); go_simp <;> with_reducible rfl)) | (refine anyH_free (i := 6) (v := undef) rfl (by kernel_rfl) (fun _ _ _ h => h) (Or.inr ⟨rfl, rfl⟩) hb0 ?_)); (simp only [Act.put, List.setIfInBounds_toArray, List.set_cons_zero, List.set_cons_succ])); ((first | (refine anyH_free (i := 7) (v := ?_) rfl (by kernel_rfl) (fun _ _ _ h => h) (Or.inl ⟨rfl, fun w' hS => ?_⟩) hb0 ?_; rotate_left; ((have cx := (hrb.below hS).rd.1; have x0 := cell_below x0 hS); go_simp <;> with_reducible rfl)) | (refine anyH_free (i := 7) (v := undef) rfl (by kernel_rfl) (fun _ _ _ h => h) (Or.inr ⟨rfl, rfl⟩) hb0 ?_)); (simp only [Act.put, List.setIfInBounds_toArray, List.set_cons_zero, List.set_cons_succ])); ((first | (refine anyH_free (i := 8) (v := ?_) rfl (by kernel_rfl) (fun _ _ _ h => h) (Or.inl ⟨rfl, fun w' hS => ?_⟩) hb0 ?_; rotate_left; ((have cx := (hrb.below hS).rd.1; have x0 := cell_below x0 hS); go_simp <;> with_reducible rfl)) | (refine anyH_free (i := 8) (v := undef) rfl (by kernel_rfl) (fun _ _ _ h => h) (Or.inr ⟨rfl, rfl⟩) hb0 ?_)); (simp only [Act.put, List.setIfInBounds_toArray, List.set_cons_zero, List.set_cons_succ]))
            refine anyH_sole (i := 9) rfl (by kernel_rfl) rfl (fun K hK => ?_)
            go_simp
            refine (has_any (s := x.nm) (HRM.out.below hb0) (by omega)).mono ?_
            rintro e w8 ⟨rfl, rfl⟩
            refine hK _ _ hb0 ?_
            clear hK K
            cases hh : hasK mu x.nm with
            | false =>
              have HV : Hid (silB (ms.take (k + 1)) mu at_ = false) := Lib.hid (by rw [HSN.out, ← HF.out, hh]; rfl)
              clear hh
              ((first | (refine anyH_free (i := 10) (v := ?_) rfl (by kernel_rfl) (fun _ _ _ h => h) (Or.inl ⟨rfl, fun w' hS => ?_⟩) hb0 ?_; rotate_left; (skip; go_simp <;> with_reducible rfl)) | (refine anyH_free (i := 10) (v := undef) rfl (by kernel_rfl) (fun _ _ _ h => h) (Or.inr ⟨rfl, rfl⟩) hb0 ?_)); (simp only [Act.put, List.setIfInBounds_toArray, List.set_cons_zero, List.set_cons_succ])); ((first | (refine anyH_free (i := 11) (v := ?_) rfl (by kernel_rfl) (fun _ _ _ h => h) (Or.inl ⟨rfl, fun w' hS => ?_⟩) hb0 ?_; rotate_left; (skip; go_simp <;> with_reducible rfl)) | (refine anyH_free (i := 11) (v := undef) rfl (by kernel_rfl) (fun _ _ _ h => h) (Or.inr ⟨rfl, rfl⟩) hb0 ?_)); (simp only [Act.put, List.setIfInBounds_toArray, List.set_cons_zero, List.set_cons_succ])); ((first | (refine anyH_free (i := 12) (v := ?_) rfl (by kernel_rfl) (fun _ _ _ h => h) (Or.inl ⟨rfl, fun w' hS => ?_⟩) hb0 ?_; rotate_left; (skip; go_simp <;> with_reducible rfl)) | (refine anyH_free (i := 12) (v := undef) rfl (by kernel_rfl) (fun _ _ _ h => h) (Or.inr ⟨rfl, rfl⟩) hb0 ?_)); (simp only [Act.put, List.setIfInBounds_toArray, List.set_cons_zero, List.set_cons_succ])); ((first | (refine anyH_free (i := 13) (v := ?_) rfl (by kernel_rfl) (fun _ _ _ h => h) (Or.inl ⟨rfl, fun w' hS => ?_⟩) hb0 ?_; rotate_left; (skip; go_simp <;> with_reducible rfl)) | (refine anyH_free (i := 13) (v := undef) rfl (by kernel_rfl) (fun _ _ _ h => h) (Or.inr ⟨rfl, rfl⟩) hb0 ?_)); (simp only [Act.put, List.setIfInBounds_toArray, List.set_cons_zero, List.set_cons_succ])); ((first | (refine anyH_free (i := 14) (v := ?_) rfl (by kernel_rfl) (fun _ _ _ h => h) (Or.inl ⟨rfl, fun w' hS => ?_⟩) hb0 ?_; rotate_left; (skip; go_simp <;> with_reducible rfl)) | (refine anyH_free (i := 14) (v := undef) rfl (by kernel_rfl) (fun _ _ _ h => h) (Or.inr ⟨rfl, rfl⟩) hb0 ?_)); (simp only [Act.put, List.setIfInBounds_toArray, List.set_cons_zero, List.set_cons_succ])); ((first | (refine anyH_free (i := 15) (v := ?_) rfl (by kernel_rfl) (fun _ _ _ h => h) (Or.inl ⟨rfl, fun w' hS => ?_⟩) hb0 ?_; rotate_left; (skip; go_simp <;> with_reducible rfl)) | (refine anyH_free (i := 15) (v := undef) rfl (by kernel_rfl) (fun _ _ _ h => h) (Or.inr ⟨rfl, rfl⟩) hb0 ?_)); (simp only [Act.put, List.setIfInBounds_toArray, List.set_cons_zero, List.set_cons_succ])); ((first | (refine anyH_free (i := 16) (v := ?_) rfl (by kernel_rfl) (fun _ _ _ h => h) (Or.inl ⟨rfl, fun w' hS => ?_⟩) hb0 ?_; rotate_left; (skip; go_simp <;> with_reducible rfl)) | (refine anyH_free (i := 16) (v := undef) rfl (by kernel_rfl) (fun _ _ _ h => h) (Or.inr ⟨rfl, rfl⟩) hb0 ?_)); (simp only [Act.put, List.setIfInBounds_toArray, List.set_cons_zero, List.set_cons_succ])); ((first | (refine anyH_free (i := 17) (v := ?_) rfl (by kernel_rfl) (fun _ _ _ h => h) (Or.inl ⟨rfl, fun w' hS => ?_⟩) hb0 ?_; rotate_left; (skip; go_simp <;> with_reducible rfl)) | (refine anyH_free (i := 17) (v := undef) rfl (by kernel_rfl) (fun _ _ _ h => h) (Or.inr ⟨rfl, rfl⟩) hb0 ?_)); (simp only [Act.put, List.setIfInBounds_toArray, List.set_cons_zero, List.set_cons_succ])); ((first | (refine anyH_free (i := 18) (v := ?_) rfl (by kernel_rfl) (fun _ _ _ h => h) (Or.inl ⟨rfl, fun w' hS => ?_⟩) hb0 ?_; rotate_left; (skip; go_simp <;> with_reducible rfl)) | (refine anyH_free (i := 18) (v := undef) rfl (by kernel_rfl) (fun _ _ _ h => h) (Or.inr ⟨rfl, rfl⟩) hb0 ?_)); (simp only [Act.put, List.setIfInBounds_toArray, List.set_cons_zero, List.set_cons_succ])); ((first | (refine anyH_free (i := 19) (v := ?_) rfl (by kernel_rfl) (fun _ _ _ h => h) (Or.inl ⟨rfl, fun w' hS => ?_⟩) hb0 ?_; rotate_left; (skip; go_simp <;> with_reducible rfl)) | (refine anyH_free (i := 19) (v := undef) rfl (by kernel_rfl) (fun _ _ _ h => h) (Or.inr ⟨rfl, rfl⟩) hb0 ?_)); (simp only [Act.put, List.setIfInBounds_toArray, List.set_cons_zero, List.set_cons_succ]))
              refine anyH_done (by kernel_rfl) ?_
              have HB8 : Hid (Below w5.heap.size w5 wr.drew) := Lib.hid (HBK.out.drew)
              clear hb0 hrb x0 x1 x2 x3 x4 x5 x6 x7 x8 x9
              go_wp2_with fail
              exact ⟨⟨k + 1, false, rfl, by simp, by omega, HV.out.symm, HNN.out, HB8.out⟩, by simp [intOf]; omega⟩
            | true =>
              have HSV : Hid (silB (ms.take (k + 1)) mu at_ = sil x at_) := Lib.hid (by rw [HSN.out, ← HF.out, hh]; rfl)
              clear hh
              ((first | (refine anyH_free (i := 10) (v := ?_) rfl (by kernel_rfl) (fun _ _ _ h => h) (Or.inl ⟨rfl, fun w' hS => ?_⟩) hb0 ?_; rotate_left; ((have x0 := cell_below x0 hS; have x1 := cell_below x1 hS; have x2 := cell_below x2 hS; have x3 := cell_below x3 hS; have x4 := cell_below x4 hS; have x5 := cell_below x5 hS; have x6 := cell_below x6 hS; have x7 := cell_below x7 hS; have x8 := cell_below x8 hS; have x9 := cell_below x9 hS); go_simp <;> with_reducible rfl)) | (refine anyH_free (i := 10) (v := undef) rfl (by kernel_rfl) (fun _ _ _ h => h) (Or.inr ⟨rfl, rfl⟩) hb0 ?_)); (simp only [Act.put, List.setIfInBounds_toArray, List.set_cons_zero, List.set_cons_succ])); ((first | (refine anyH_free (i := 11) (v := ?_) rfl (by kernel_rfl) (fun _ _ _ h => h) (Or.inl ⟨rfl, fun w' hS => ?_⟩) hb0 ?_; rotate_left; ((have x0 := cell_below x0 hS; have x1 := cell_below x1 hS; have x2 := cell_below x2 hS; have x3 := cell_below x3 hS; have x4 := cell_below x4 hS; have x5 := cell_below x5 hS; have x6 := cell_below x6 hS; have x7 := cell_below x7 hS; have x8 := cell_below x8 hS; have x9 := cell_below x9 hS); go_simp <;> with_reducible rfl)) | (refine anyH_free (i := 11) (v := undef) rfl (by kernel_rfl) (fun _ _ _ h => h) (Or.inr ⟨rfl, rfl⟩) hb0 ?_)); (simp only [Act.put, List.setIfInBounds_toArray, List.set_cons_zero, List.set_cons_succ])); ((first | (refine anyH_free (i := 12) (v := ?_) rfl (by kernel_rfl) (fun _ _ _ h => h) (Or.inl ⟨rfl, fun w' hS => ?_⟩) hb0 ?_; rotate_left; ((have x0 := cell_below x0 hS; have x1 := cell_below x1 hS; have x2 := cell_below x2 hS; have x3 := cell_below x3 hS; have x4 := cell_below x4 hS; have x5 := cell_below x5 hS; have x6 := cell_below x6 hS; have x7 := cell_below x7 hS; have x8 := cell_below x8 hS; have x9 := cell_below x9 hS); go_simp <;> with_reducible rfl)) | (refine anyH_free (i := 12) (v := undef) rfl (by kernel_rfl) (fun _ _ _ h => h) (Or.inr ⟨rfl, rfl⟩) hb0 ?_)); (simp only [Act.put, List.setIfInBounds_toArray, List.set_cons_zero, List.set_cons_succ])); ((first | (refine anyH_free (i := 13) (v := ?_) rfl (by kernel_rfl) (fun _ _ _ h => h) (Or.inl ⟨rfl, fun w' hS => ?_⟩) hb0 ?_; rotate_left; ((have x0 := cell_below x0 hS; have x1 := cell_below x1 hS; have x2 := cell_below x2 hS; have x3 := cell_below x3 hS; have x4 := cell_below x4 hS; have x5 := cell_below x5 hS; have x6 := cell_below x6 hS; have x7 := cell_below x7 hS; have x8 := cell_below x8 hS; have x9 := cell_below x9 hS); go_simp <;> with_reducible rfl)) | (refine anyH_free (i := 13) (v := undef) rfl (by kernel_rfl) (fun _ _ _ h => h) (Or.inr ⟨rfl, rfl⟩) hb0 ?_)); (simp only [Act.put, List.setIfInBounds_toArray, List.set_cons_zero, List.set_cons_succ])); ((first | (refine anyH_free (i := 14) (v := ?_) rfl (by kernel_rfl) (fun _ _ _ h => h) (Or.inl ⟨rfl, fun w' hS => ?_⟩) hb0 ?_; rotate_left; ((have x0 := cell_below x0 hS; have x1 := cell_below x1 hS; have x2 := cell_below x2 hS; have x3 := cell_below x3 hS; have x4 := cell_below x4 hS; have x5 := cell_below x5 hS; have x6 := cell_below x6 hS; have x7 := cell_below x7 hS; have x8 := cell_below x8 hS; have x9 := cell_below x9 hS); go_simp <;> with_reducible rfl)) | (refine anyH_free (i := 14) (v := undef) rfl (by kernel_rfl) (fun _ _ _ h => h) (Or.inr ⟨rfl, rfl⟩) hb0 ?_)); (simp only [Act.put, List.setIfInBounds_toArray, List.set_cons_zero, List.set_cons_succ])); ((first | (refine anyH_free (i := 15) (v := ?_) rfl (by kernel_rfl) (fun _ _ _ h => h) (Or.inl ⟨rfl, fun w' hS => ?_⟩) hb0 ?_; rotate_left; ((have x0 := cell_below x0 hS; have x1 := cell_below x1 hS; have x2 := cell_below x2 hS; have x3 := cell_below x3 hS; have x4 := cell_below x4 hS; have x5 := cell_below x5 hS; have x6 := cell_below x6 hS; have x7 := cell_below x7 hS; have x8 := cell_below x8 hS; have x9 := cell_below x9 hS); go_simp <;> with_reducible rfl)) | (refine anyH_free (i := 15) (v := undef) rfl (by kernel_rfl) (fun _ _ _ h => h) (Or.inr ⟨rfl, rfl⟩) hb0 ?_)); (simp only [Act.put, List.setIfInBounds_toArray, List.set_cons_zero, List.set_cons_succ]))
              refine anyH_sole (i := 16) rfl (by kernel_rfl) rfl (fun K hK => ?_)
              go_simp
              refine (silent_any x at_ _).mono ?_
              rintro e w8 ⟨rfl, hb⟩
              have hb8 := hb0.trans (hb.mono hb0.size)
              refine hK _ _ hb8 ?_
              clear hK K
              obtain ⟨q, hq⟩ : ∃ q, sil x at_ = q := ⟨_, rfl⟩
              rw [hq] at HSV ⊢
              cases q with
              | false =>
                have HV := HSV
                ((first | (refine anyH_free (i := 17) (v := ?_) rfl (by kernel_rfl) (fun _ _ _ h => h) (Or.inl ⟨rfl, fun w' hS => ?_⟩) hb8 ?_; rotate_left; (skip; go_simp <;> with_reducible rfl)) | (refine anyH_free (i := 17) (v := undef) rfl (by kernel_rfl) (fun _ _ _ h => h) (Or.inr ⟨rfl, rfl⟩) hb8 ?_)); (simp only [Act.put, List.setIfInBounds_toArray, List.set_cons_zero, List.set_cons_succ])); ((first | (refine anyH_free (i := 18) (v := ?_) rfl (by kernel_rfl) (fun _ _ _ h => h) (Or.inl ⟨rfl, fun w' hS => ?_⟩) hb8 ?_; rotate_left; (skip; go_simp <;> with_reducible rfl)) | (refine anyH_free (i := 18) (v := undef) rfl (by kernel_rfl) (fun _ _ _ h => h) (Or.inr ⟨rfl, rfl⟩) hb8 ?_)); (simp only [Act.put, List.setIfInBounds_toArray, List.set_cons_zero, List.set_cons_succ])); ((first | (refine anyH_free (i := 19) (v := ?_) rfl (by kernel_rfl) (fun _ _ _ h => h) (Or.inl ⟨rfl, fun w' hS => ?_⟩) hb8 ?_; rotate_left; (skip; go_simp <;> with_reducible rfl)) | (refine anyH_free (i := 19) (v := undef) rfl (by kernel_rfl) (fun _ _ _ h => h) (Or.inr ⟨rfl, rfl⟩) hb8 ?_)); (simp only [Act.put, List.setIfInBounds_toArray, List.set_cons_zero, List.set_cons_succ]))
                refine anyH_done (by kernel_rfl) ?_
                have HB8 : Hid (Below w5.heap.size w5 w8) := Lib.hid (HBK.out.trans (hb8.mono HBK.out.size))
                clear hb hb0 hb8 hrb x0 x1 x2 x3 x4 x5 x6 x7 x8 x9
                go_wp2_with fail
                exact ⟨⟨k + 1, false, rfl, by simp, by omega, HV.out.symm, HNN.out, HB8.out⟩, by simp [intOf]; omega⟩
              | true =>
                have HV := HSV
                ((first | (refine anyH_free (i := 17) (v := ?_) rfl (by kernel_rfl) (fun _ _ _ h => h) (Or.inl ⟨rfl, fun w' hS => ?_⟩) hb8 ?_; rotate_left; (skip; go_simp <;> with_reducible rfl)) | (refine anyH_free (i := 17) (v := undef) rfl (by kernel_rfl) (fun _ _ _ h => h) (Or.inr ⟨rfl, rfl⟩) hb8 ?_)); (simp only [Act.put, List.setIfInBounds_toArray, List.set_cons_zero, List.set_cons_succ])); ((first | (refine anyH_free (i := 18) (v := ?_) rfl (by kernel_rfl) (fun _ _ _ h => h) (Or.inl ⟨rfl, fun w' hS => ?_⟩) hb8 ?_; rotate_left; (skip; go_simp <;> with_reducible rfl)) | (refine anyH_free (i := 18) (v := undef) rfl (by kernel_rfl) (fun _ _ _ h => h) (Or.inr ⟨rfl, rfl⟩) hb8 ?_)); (simp only [Act.put, List.setIfInBounds_toArray, List.set_cons_zero, List.set_cons_succ])); ((first | (refine anyH_free (i := 19) (v := ?_) rfl (by kernel_rfl) (fun _ _ _ h => h) (Or.inl ⟨rfl, fun w' hS => ?_⟩) hb8 ?_; rotate_left; (skip; go_simp <;> with_reducible rfl)) | (refine anyH_free (i := 19) (v := undef) rfl (by kernel_rfl) (fun _ _ _ h => h) (Or.inr ⟨rfl, rfl⟩) hb8 ?_)); (simp only [Act.put, List.setIfInBounds_toArray, List.set_cons_zero, List.set_cons_succ]))
                refine anyH_done (by kernel_rfl) ?_
                have HB8 : Hid (Below w5.heap.size w5 w8) := Lib.hid (HBK.out.trans (hb8.mono HBK.out.size))
                clear hb hb0 hb8 hrb x0 x1 x2 x3 x4 x5 x6 x7 x8 x9
                go_wp2_with fail
                exact ⟨⟨k + 1, true, rfl, by simp, by omega, HV.out.symm, HNN.out, HB8.out⟩, by simp [intOf]; omega⟩
      · obtain rfl : i = ms.length := by omega
        rw [List.take_length] at HF HND
        have HSB : Hid (mutedB ms mu at_ = f) := Lib.hid (by rw [muted_sil HND.out, HF.out])
        have c4 := (H45.out.below HB.out).rd.1
        have HR6 : Hid (Ro (fun _ => True) Wo ⟨nm, by0, .slice na nn nc, fr, ev, rp, .slice pv mu.length cv, mu, rt⟩) := Lib.hid ⟨HR5.out.m.below HB.out, HR5.out.n⟩
        have HDD := Lib.hid (due_any HR6.out (H15.out.below HB.out) (H25.out.below HB.out) (by omega) (by simp only; omega) (by omega) HS1.out HNP.out)
        have HB6 := Lib.hid (HB5.out.trans (HB.out.mono HB5.out.size))
        cases f with
        | true =>
          have HDL : Hid (dueL ⟨nm, by0, .slice na nn nc, fr, ev, rp, .slice pv mu.length cv, mu, rt⟩ ms l at_ = []) := Lib.hid (by unfold dueL; rw [if_pos HSB.out])
          go_wp2_with fail
          refine HDD.out.mono ?_
          rintro e w7 ⟨v7, rfl, ho, hb⟩
          rw [HDL.out] at ho
          obtain ⟨p7, c7, rfl⟩ := owns_slice ho
          have HB7 := Lib.hid (HB6.out.trans (hb.mono HB6.out.size))
          clear ho hb c4 HDD
          go_wp2_with fail
          go_ret
          exact ⟨rfl, HB7.out⟩
        | false =>
          have HDL : Hid (dueL ⟨nm, by0, .slice na nn nc, fr, ev, rp, .slice pv mu.length cv, mu, rt⟩ ms l at_ = KA) := Lib.hid (by unfold dueL; rw [if_neg (by rw [HSB.out]; simp)]; exact HKA.out)
          go_wp2_with fail
          refine HDD.out.mono ?_
          rintro e w7 ⟨v7, rfl, ho, hb⟩
          rw [HDL.out] at ho
          obtain ⟨p7, c7, rfl⟩ := owns_slice ho
          have HB7 := Lib.hid (HB6.out.trans (hb.mono HB6.out.size))
          have HSN := Lib.hid (sameNames_any (S := fun _ => True) ((Sl.owned encS_len ho).mono (fun _ _ _ => trivial)) ((HAL5.out.below HB.out).below hb) (by omega))
          clear ho hb c4 HDD
          go_wp2_with fail
          refine HSN.out.mono ?_
          rintro e w8 ⟨rfl, hb⟩
          have HB8 := Lib.hid (HB7.out.trans (hb.mono HB7.out.size))
          clear hb HSN
          go_wp2_with fail
          go_ret
          exact ⟨rfl, HB8.out⟩
end Go.Proofs.Ytajflljemfgkiaa
