/- OweOthers' walk -/
import Derived.Test.YtajflljemfgkiaaEAwk
import Derived.Test.YtajflljemfgkiaaEOtl
import Derived.Laws.StructEq
namespace Go.Proofs.Ytajflljemfgkiaa
open Go.RowKit Mut
attribute [local go_sem] Oper.semAt_some
theorem tellL_nil (l : List Al) (at_ : Int) : tellL l [] at_ = l := by
  unfold tellL
  have : ∀ x ∈ l, tell1 [] at_ x = id x := fun x _ => by unfold tell1; rw [show hasK [] x.by_ = false from rfl]; rfl
  rw [List.map_congr_left this, List.map_id]
theorem tellL_at {l : List Al} {keys : List ByteArray} {at_ : Int} {k : Nat} {x : Al} (h : l[k]? = some x) : (tellL l keys at_)[k]? = some (tell1 keys at_ x) := by
  unfold tellL
  rw [List.getElem?_map, h]
  rfl
set_option maxRecDepth 100000 in
set_option maxHeartbeats 8000000 in
theorem oweOthers_any {at_ : Int} {v1 v2 : Value} {l : List Al} {keys : List ByteArray} {w : World} (h1 : Sl (fun _ => True) w v1 5 encA l) (h2 : Sl (fun _ => True) w v2 1 encS keys) (_ : (Lit.int .i64 at_).wf = true) :
    Calls Try.prog 8 #[v1, v2, .int .i64 at_] w (Tells (.bool true) w) := by
  have H1 := Lib.hid h1
  have H2 := Lib.hid h2
  obtain ⟨p1, c1, rfl, -, -⟩ := h1.len
  obtain ⟨p2, c2, rfl, -, -⟩ := h2.len
  clear h1 h2
  go_enter Try.func8, Try.ntmps8
  go_wp2_with fail
  refine (awake_any w).mono ?_
  rintro e w1 ⟨rfl, hb⟩
  have HB1 := Lib.hid hb
  have H11 := Lib.hid (H1.out.below hb)
  have H21 := Lib.hid (H2.out.below hb)
  have HGR := Lib.hid (great_any (ms := []) (v2 := .slice none 0 0) (zeroR_ro (fun _ => True) w1) (Sl.nil (fun _ => True) w1) H11.out H21.out)
  clear hb H1 H2
  go_wp2_with fail
  refine HGR.out.mono ?_
  rintro e w2 ⟨bg, rfl, hbg, hb⟩
  have HB2 := Lib.hid (HB1.out.trans (hb.mono HB1.out.size))
  cases bg with
  | true =>
    clear hbg hb
    go_wp2_with fail
    go_ret
    exact ⟨rfl, HB2.out⟩
  | false =>
    obtain ⟨⟨g1, g2, -, -⟩, g3, g4, -, -⟩ := hbg rfl
    have H12 := Lib.hid (H11.out.below hb)
    have H22 := Lib.hid (H21.out.below hb)
    have HS1 : Hid (∀ x ∈ l, x.by_.size ≤ maxLen) := Lib.hid fun x hx => by have := g3 x hx; unfold maxLen; omega
    have HS2 : Hid (∀ s ∈ keys, s.size ≤ maxLen) := Lib.hid fun s hs => by have := g4 s hs; unfold maxLen; omega
    have HT1 := Lib.hid (tell_any (at_ := at_) H12.out H22.out (by omega) (by omega) HS1.out HS2.out)
    clear hbg hb g3 g4 HGR HB1 H11 H21
    go_wp2_with fail
    refine HT1.out.mono ?_
    rintro e w3 ⟨v3, rfl, ho, hb⟩
    have st := (Sl.owned encA_len ho).mono (T := fun _ => True) (fun _ _ _ => trivial)
    obtain ⟨p3, c3, rfl⟩ := owns_slice ho
    have HT := Lib.hid st
    have H13 := Lib.hid (H12.out.below hb)
    have H23 := Lib.hid (H22.out.below hb)
    have HB3 := Lib.hid (HB2.out.trans (hb.mono HB2.out.size))
    have HT2 := Lib.hid (tell_any (keys := []) (at_ := at_) H13.out (Sl.nil (fun _ => True) w3) (by omega) (by simp) HS1.out (fun s h => by simp at h))
    have hlt := tellL_len l keys at_
    rw [hlt] at HT ⊢
    clear ho st hb HT1 HB2 H12 H22 hlt
    go_wp2_with fail
    refine HT2.out.mono ?_
    rintro e w4 ⟨v4, rfl, ho, hb⟩
    rw [tellL_nil] at ho
    have HN := Lib.hid ((Sl.owned encA_len ho).mono (T := fun _ => True) (fun _ _ _ => trivial))
    obtain ⟨p4, c4, rfl⟩ := owns_slice ho
    have HT4 := Lib.hid (HT.out.below hb)
    have H14 := Lib.hid (H13.out.below hb)
    have H24 := Lib.hid (H23.out.below hb)
    have HB4 := Lib.hid (HB3.out.trans (hb.mono HB3.out.size))
    have HSA := Lib.hid (sameA_any HN.out H14.out (by omega))
    clear ho hb HT HT2 H13 H23 HB3
    go_wp2_with fail
    refine HSA.out.mono ?_
    rintro e w5 ⟨rfl, hb⟩
    have HT5 := Lib.hid (HT4.out.below hb)
    have H15 := Lib.hid (H14.out.below hb)
    have H25 := Lib.hid (H24.out.below hb)
    have HB5 := Lib.hid (HB4.out.trans (hb.mono HB4.out.size))
    clear hb HSA HN HT4 H14 H24 HB4
    go_wp2_with fail
    go_loopw [9, 10] (fun iv_ _ wr => ∃ k : Nat, iv_ = .int .i64 k ∧ k ≤ l.length ∧ Below w5.heap.size w5 wr) (fun iv_ _ _ => l.length - (intOf iv_).toNat)
    · exact ⟨0, rfl, by omega, Below.refl _ _⟩
    obtain ⟨k, rfl, hk, hB⟩ := hrel
    have HB := Lib.hid hB
    clear hB
    by_cases hlt : k < l.length
    · obtain ⟨⟨r, by_, s, si, t⟩, hx⟩ : ∃ x, l[k]? = some x := ⟨_, List.getElem?_eq_getElem hlt⟩
      obtain ⟨a1, rfl, -, -, hrow⟩ := (H15.out.below HB.out).at hx
      obtain ⟨x0, x1, x2, x3, x4⟩ := cells_A hrow hx
      simp only at x0 x1 x2 x3 x4
      have hkk : (k : Int) < (l.length : Int) := by omega
      have hb1 := fun t => (Below.refl _ wr).alloc (Nat.le_refl _) (.cells (ac ⟨r, by_, s, si, t⟩) 39)
      have HHK := Lib.hid (has_any (s := by_) (H25.out.below (HB.out.trans ((hb1 t).mono HB.out.size))) (by omega))
      have HX := Lib.hid hx
      have HB1 := Lib.hid hb1
      obtain ⟨a1', e1, -, -, hrow2⟩ := ((H15.out.below HB.out).below (hb1 t)).at hx
      cases e1
      obtain ⟨y0, y1, y2, y3, y4⟩ := cells_A hrow2 hx
      simp only at y0 y1 y2 y3 y4
      clear hrow hrow2 hx hb1
      go_wp2_with fail
      refine HHK.out.mono ?_
      rintro e w6 ⟨rfl, rfl⟩
      cases hhas : hasK keys by_ with
      | true =>
        have HHAS := Lib.hid hhas
        clear hhas
        have HTE : Hid (tell1 keys at_ ⟨r, by_, s, si, t⟩ = ⟨r, by_, s, si, at_⟩) := Lib.hid (by unfold tell1; simp only [HHAS.out]; rfl)
        have hrow := HT5.out.below (HB.out.trans ((HB1.out at_).mono HB.out.size))
        have htx := tellL_at (keys := keys) (at_ := at_) HX.out
        rw [HTE.out] at htx
        obtain ⟨a3, e3, -, -, hrow3⟩ := hrow.at htx
        have hl3 := tellL_len l keys at_
        cases e3
        have hbx := Box.new wr (ac ⟨r, by_, s, si, at_⟩) 39
        obtain ⟨Wn, hWn⟩ : ∃ Wn, (wr.alloc (.cells (ac ⟨r, by_, s, si, at_⟩) 39)) = Wn := ⟨_, rfl⟩
        rw [hWn] at hrow3 hbx
        have HWN := Lib.hid hWn
        have HBN : Hid (Below w5.heap.size w5 Wn) := Lib.hid (by rw [← hWn]; exact HB.out.trans ((HB1.out at_).mono HB.out.size))
        obtain ⟨z0, z1, z2, z3, z4⟩ := cells_A hrow3 htx
        simp only at z0 z1 z2 z3 z4
        have cb := hbx.rd.1
        clear hrow hrow3 htx hWn y0 y1 y2 y3 y4 x0 x1 x2 x3 x4
        go_wp2_with fail
        rw [HWN.out]
        have hq := fun w => equal_alert ⟨r, by_, s, si, at_⟩ w
        have hg := guard_alert
        refine wp_region_ordH [0, 1, 2, 3, 4, 5] (fun w' => Below Wn.heap.size Wn w') (by kernel_rfl) (by kernel_rfl) ?_
        have hb0 : Below Wn.heap.size Wn Wn.drew := (Below.refl _ Wn).drew
        iterate 5 ((first | (refine ordH_free (v := ?_) rfl (by kernel_rfl) (fun _ _ _ h => h) (Or.inl ⟨rfl, fun w' hS => ?_⟩) hb0 ?_; rotate_left; (have z0 := cell_below z0 hS; have z1 := cell_below z1 hS; have z2 := cell_below z2 hS; have z3 := cell_below z3 hS; have z4 := cell_below z4 hS; have cb := (hbx.below hS).rd.1; go_simp <;> with_reducible rfl)) | (refine ordH_free (v := undef) rfl (by kernel_rfl) (fun _ _ _ h => h) (Or.inr ⟨rfl, rfl⟩) hb0 ?_)); (simp only [Act.put, List.setIfInBounds_toArray, List.set_cons_zero, List.set_cons_succ]))
        iterate 1 ((first | (refine ordH_free (v := ?_) rfl (by kernel_rfl) (fun _ _ _ h => h) (Or.inl ⟨rfl, fun w' hS => ?_⟩) hb0 ?_; rotate_left; (skip; go_simp <;> with_reducible rfl)) | (refine ordH_free (v := undef) rfl (by kernel_rfl) (fun _ _ _ h => h) (Or.inr ⟨rfl, rfl⟩) hb0 ?_)); (simp only [Act.put, List.setIfInBounds_toArray, List.set_cons_zero, List.set_cons_succ]))
        refine ⟨by kernel_rfl, ?_⟩
        have HBZ : Hid (Below w5.heap.size w5 Wn.drew) := Lib.hid (HBN.out.drew)
        clear z0 z1 z2 z3 z4 hb0 hq hg cb hbx
        go_wp2_with fail
        exact ⟨⟨k + 1, by simp, by omega, HBZ.out⟩, by simp [intOf]; omega⟩
      | false =>
        have HHAS := Lib.hid hhas
        clear hhas
        have HTE : Hid (tell1 keys at_ ⟨r, by_, s, si, t⟩ = ⟨r, by_, s, si, t⟩) := Lib.hid (by unfold tell1; simp only [HHAS.out]; rfl)
        have hrow := HT5.out.below (HB.out.trans ((HB1.out t).mono HB.out.size))
        have htx := tellL_at (keys := keys) (at_ := at_) HX.out
        rw [HTE.out] at htx
        obtain ⟨a3, e3, -, -, hrow3⟩ := hrow.at htx
        have hl3 := tellL_len l keys at_
        cases e3
        have hbx := Box.new wr (ac ⟨r, by_, s, si, t⟩) 39
        obtain ⟨Wn, hWn⟩ : ∃ Wn, (wr.alloc (.cells (ac ⟨r, by_, s, si, t⟩) 39)) = Wn := ⟨_, rfl⟩
        rw [hWn] at hrow3 hbx
        have HWN := Lib.hid hWn
        have HBN : Hid (Below w5.heap.size w5 Wn) := Lib.hid (by rw [← hWn]; exact HB.out.trans ((HB1.out t).mono HB.out.size))
        obtain ⟨z0, z1, z2, z3, z4⟩ := cells_A hrow3 htx
        simp only at z0 z1 z2 z3 z4
        have cb := hbx.rd.1
        clear hrow hrow3 htx hWn y0 y1 y2 y3 y4 x0 x1 x2 x3 x4
        go_wp2_with fail
        rw [HWN.out]
        have hq := fun w => equal_alert ⟨r, by_, s, si, t⟩ w
        have hg := guard_alert
        refine wp_region_ordH [0, 1, 2, 3, 4, 5] (fun w' => Below Wn.heap.size Wn w') (by kernel_rfl) (by kernel_rfl) ?_
        have hb0 : Below Wn.heap.size Wn Wn.drew := (Below.refl _ Wn).drew
        iterate 5 ((first | (refine ordH_free (v := ?_) rfl (by kernel_rfl) (fun _ _ _ h => h) (Or.inl ⟨rfl, fun w' hS => ?_⟩) hb0 ?_; rotate_left; (have z0 := cell_below z0 hS; have z1 := cell_below z1 hS; have z2 := cell_below z2 hS; have z3 := cell_below z3 hS; have z4 := cell_below z4 hS; have cb := (hbx.below hS).rd.1; go_simp <;> with_reducible rfl)) | (refine ordH_free (v := undef) rfl (by kernel_rfl) (fun _ _ _ h => h) (Or.inr ⟨rfl, rfl⟩) hb0 ?_)); (simp only [Act.put, List.setIfInBounds_toArray, List.set_cons_zero, List.set_cons_succ]))
        iterate 1 ((first | (refine ordH_free (v := ?_) rfl (by kernel_rfl) (fun _ _ _ h => h) (Or.inl ⟨rfl, fun w' hS => ?_⟩) hb0 ?_; rotate_left; (skip; go_simp <;> with_reducible rfl)) | (refine ordH_free (v := undef) rfl (by kernel_rfl) (fun _ _ _ h => h) (Or.inr ⟨rfl, rfl⟩) hb0 ?_)); (simp only [Act.put, List.setIfInBounds_toArray, List.set_cons_zero, List.set_cons_succ]))
        refine ⟨by kernel_rfl, ?_⟩
        have HBZ : Hid (Below w5.heap.size w5 Wn.drew) := Lib.hid (HBN.out.drew)
        clear z0 z1 z2 z3 z4 hb0 hq hg cb hbx
        go_wp2_with fail
        exact ⟨⟨k + 1, by simp, by omega, HBZ.out⟩, by simp [intOf]; omega⟩
    · obtain rfl : k = l.length := by omega
      have HE := Lib.hid (HB5.out.trans (HB.out.mono HB5.out.size))
      go_wp2_with fail
      go_ret
      exact ⟨rfl, HE.out⟩
end Go.Proofs.Ytajflljemfgkiaa
