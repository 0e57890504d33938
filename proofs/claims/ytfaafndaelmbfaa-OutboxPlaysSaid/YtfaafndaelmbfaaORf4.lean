/- The document's Add. (The orders of its last line printed by a program.) -/
import Derived.Test.YtfaafndaelmbfaaORf3
namespace Go.Proofs.Ytfaafndaelmbfaa
open Go.RowKit
attribute [local go_sem] Oper.semAt_some

/-- what the document owes: rows in T, what they hold in A -/
def Rf (A T : Nat → Prop) (W : World) (v : Value) (xs : List Ox) : Prop := ∃ rs : List Ow, rs.map Ow.pl = xs ∧ Sl T W v 7 encO rs ∧ ∀ r ∈ rs, Mo A W r.m
section
variable {A B T U F : Nat → Prop} {W W' : World} {v : Value} {xs : List Ox}
theorem Rf.kept (h : Rf A T W v xs) (hk : Kept F W W') (hA : ∀ k, k < W.heap.size → A k → ¬ F k) (hT : ∀ k, k < W.heap.size → T k → ¬ F k) : Rf A T W' v xs := by
  obtain ⟨rs, h1, h2, h3⟩ := h
  exact ⟨rs, h1, h2.kept hk hT, fun r hr => (h3 r hr).kept hk hA⟩
theorem Rf.below (h : Rf A T W v xs) (hb : Below W.heap.size W W') : Rf A T W' v xs := h.kept (F := fun _ => False) (kept_of_below hb) (fun _ _ _ x => x) (fun _ _ _ x => x)
theorem Rf.mono (h : Rf A T W v xs) (hA : ∀ k, k < W.heap.size → A k → B k) (hT : ∀ k, k < W.heap.size → T k → U k) : Rf B U W v xs := by
  obtain ⟨rs, h1, h2, h3⟩ := h
  exact ⟨rs, h1, h2.mono hT, fun r hr => (h3 r hr).mono hA⟩
theorem Rf.osl (h : Rf A T W v xs) : Osl (fun b => A b ∨ T b) W v xs := by
  obtain ⟨rs, h1, h2, h3⟩ := h
  exact ⟨rs, h1, h2.mono (fun _ _ s => .inr s), fun r hr => (h3 r hr).mono (fun _ _ s => .inl s)⟩
theorem Rf.nil (A T : Nat → Prop) (W : World) : Rf A T W (.slice none 0 0) [] := ⟨[], rfl, Sl.nil T W, fun r hr => by cases hr⟩
theorem Rro.rf {base : Nat} {S : Nat → Prop} {rs : List Ow} (h : Rro base S W v rs) : Rf S (fun b => base ≤ b) W v (rs.map Ow.pl) := ⟨rs, rfl, (Sl.owned encO_len h.own).mono (fun b _ e => (h.own.lt b e).1), h.mo⟩
end
def RAddTo (A T : Nat → Prop) (xs : List Ox) (m : Ms) (at_ : Int) (w : World) (e : Ending) (w' : World) : Prop := ∃ v, e = .returned (.tuple #[v, .int .i64 (addE xs m at_)]) ∧ Rf A (fun b => T b ∨ w.heap.size ≤ b) w' v (addL xs m at_) ∧ Below w.heap.size w w'
set_option maxRecDepth 100000 in
set_option maxHeartbeats 8000000 in
theorem radd_any {A T : Nat → Prop} {v : Value} {xs : List Ox} {r : Mr} {at_ : Int} {w : World} (h : Rf A T w v xs) (hm : Mo A w r) (hA : ∀ b, A b → b < w.heap.size) (hn : xs.length ≤ 100000) : Calls Try.prog 24 #[v, mv r, .int .i64 at_] w (RAddTo A T xs r.m at_ w) := by
  have hb0 : Below w.heap.size w (w.alloc (.cells (mc r) 31)) := (Below.refl _ w).alloc (Nat.le_refl _) _
  have b4 := Box.new w (mc r) 31
  obtain ⟨kv, sv, m⟩ := r
  obtain ⟨q1, d1, e3, _, _⟩ := hm.k.len
  obtain ⟨q2, d2, e4, _, _⟩ := hm.s.len
  simp only at e3 e4
  subst e3 e4
  obtain ⟨p0, c0, rfl⟩ := h.osl.slice
  have HRF := Lib.hid (h.below hb0)
  have HM := Lib.hid (hm.below hb0)
  have HA := Lib.hid hA
  have HB := Lib.hid hb0
  obtain ⟨W, hW⟩ : ∃ W, (w.alloc (.cells (mc ⟨.slice q1 m.ks.length d1, .slice q2 m.ss.length d2, m⟩) 31)) = W := ⟨_, rfl⟩
  rw [hW] at b4 HRF HM HB
  have HW := Lib.hid hW
  obtain ⟨t, ht⟩ : ∃ t, w.heap.size = t := ⟨_, rfl⟩
  have HT := Lib.hid ht
  rw [ht] at b4
  have H4 := Lib.hid b4
  have htl := b4.lt
  have HE2 : Hid (minB at_ = false ∨ hasR xs m.rule m.at_ = true → addE xs m at_ = 2 ∧ addL xs m at_ = xs) := Lib.hid fun hh => by
    have e : hasM xs m = hasR xs m.rule m.at_ := rfl
    unfold addE addL
    rw [e]
    rcases hh with hh | hh <;> simp [hh]
  have HE3 : Hid (minB at_ = true → hasR xs m.rule m.at_ = false → ¬ xs.length < 6 → addE xs m at_ = 240 ∧ addL xs m at_ = xs) := Lib.hid fun h1 h2 h3 => by
    have e : hasM xs m = hasR xs m.rule m.at_ := rfl
    unfold addE addL
    rw [e]
    simp [h1, h2, h3]
  have HE4 : Hid (minB at_ = true → hasR xs m.rule m.at_ = false → xs.length < 6 → addE xs m at_ = 0 ∧ addL xs m at_ = xs ++ [⟨m, 0, at_⟩]) := Lib.hid fun h1 h2 h3 => by
    have e : hasM xs m = hasR xs m.rule m.at_ := rfl
    unfold addE addL
    rw [e]
    simp [h1, h2, h3]
  have HOLD : Hid (∀ W', Below W.heap.size W W' → Rf A (fun b => T b ∨ w.heap.size ≤ b) W' (.slice p0 xs.length c0) xs) := Lib.hid fun W' hb => (HRF.out.below hb).mono (fun _ _ s => s) (fun _ _ s => .inl s)
  clear h hm hA hb0 hW b4
  go_enter Try.func24, Try.ntmps24
  go_upto_region 1 with fail
  rw [HW.out]
  clear ht
  go_wp2_with fail
  refine (rminute_any at_ _).mono ?_
  rintro e w1 ⟨rfl, rfl⟩
  cases hmin : minB at_ with
  | false =>
    obtain ⟨he1, he2⟩ := HE2.out (.inl hmin)
    have HQ : Hid (RAddTo A T xs m at_ w (.returned (.tuple #[.slice p0 xs.length c0, .int .i64 2])) W) := Lib.hid ⟨_, by rw [he1], by rw [he2]; exact HOLD.out _ (Below.refl _ _), HB.out⟩
    clear hmin he1 he2
    go_wp2_with fail
    go_ret2
    exact HQ.out
  | true =>
    have HMI := Lib.hid hmin
    clear hmin
    have c4 := H4.out.rd.1
    go_wp2_with fail
    refine (rhas_any (r := m.rule) (i := m.at_) HRF.out.osl hn).mono ?_
    rintro e w1 ⟨rfl, rfl⟩
    cases hhas : hasR xs m.rule m.at_ with
    | true =>
      obtain ⟨he1, he2⟩ := HE2.out (.inr hhas)
      have HQ : Hid (RAddTo A T xs m at_ w (.returned (.tuple #[.slice p0 xs.length c0, .int .i64 2])) W) := Lib.hid ⟨_, by rw [he1], by rw [he2]; exact HOLD.out _ (Below.refl _ _), HB.out⟩
      clear hhas he1 he2
      go_wp2_with fail
      go_ret2
      exact HQ.out
    | false =>
      by_cases h6 : xs.length < 6
      · have h6' : (xs.length : Int) < 6 := by omega
        obtain ⟨he1, he2⟩ := HE4.out HMI.out hhas h6
        obtain ⟨rs, hrs, hsl, hmo⟩ := HRF.out
        have hrl : rs.length = xs.length := by rw [← hrs, List.length_map]
        have HSL := Lib.hid hsl
        have HRL := Lib.hid hrl
        have HQ : Hid (∀ (v' : Value) (w' : World), w'.ownsRow w.heap.size 36 7 v' (rs ++ [(⟨⟨.slice q1 m.ks.length d1, .slice q2 m.ss.length d2, m⟩, 0, at_⟩ : Ow)]).length ((rs ++ [(⟨⟨.slice q1 m.ks.length d1, .slice q2 m.ss.length d2, m⟩, 0, at_⟩ : Ow)]).flatMap encO) → Below W.heap.size W w' → RAddTo A T xs m at_ w (.returned (.tuple #[v', .int .i64 0])) w') := Lib.hid fun v' w' hown hb => by
          refine ⟨v', by rw [he1], by
            rw [he2]
            refine ⟨rs ++ [⟨⟨.slice q1 m.ks.length d1, .slice q2 m.ss.length d2, m⟩, 0, at_⟩], by rw [List.map_append, hrs]; rfl, (Sl.owned encO_len hown).mono (fun b _ e => .inr (hown.lt b e).1), fun o ho => ?_⟩
            rcases List.mem_append.1 ho with ho | ho
            · exact (hmo o ho).below hb
            · obtain rfl := List.mem_singleton.1 ho
              exact HM.out.below hb, HB.out.trans (hb.mono HB.out.size)⟩
        obtain ⟨i0, hi, hi0, hi1, hi2⟩ := info_parts info_owed
        have HI := Lib.hid hi
        have HI0 := Lib.hid hi0
        have HI1 := Lib.hid hi1
        have HI2 := Lib.hid hi2
        have hWT : w.heap.size < W.heap.size := by have := HT.out; omega
        have HWT := Lib.hid hWT
        have hr6 : rs.length ≤ 6 := by omega
        have HRC0 : ∀ o ∈ rs, ∀ u ∈ encO o, u.oneCell' = true := fun o ho u hu => by
          have h1 := (hmo o ho).k.oneCell
          have h2 := (hmo o ho).s.oneCell
          simp only [List.mem_cons, List.not_mem_nil, or_false] at hu
          rcases hu with rfl | rfl | rfl | rfl | rfl | rfl | rfl
          · rfl
          · rfl
          · rfl
          · exact h1
          · exact h2
          · rfl
          · rfl
        clear hi hi0 hi1 hi2 hhas he1 he2 hrs hsl hmo hrl hWT
        have HOC : Hid (∀ u ∈ encO ⟨⟨.slice q1 m.ks.length d1, .slice q2 m.ss.length d2, m⟩, 0, at_⟩, u.oneCell' = true) := Lib.hid (by intro u hu; simp only [List.mem_cons, List.not_mem_nil, or_false] at hu; rcases hu with rfl | rfl | rfl | rfl | rfl | rfl | rfl <;> rfl)
        have HRC : Hid (∀ o ∈ rs, ∀ u ∈ encO o, u.oneCell' = true) := Lib.hid HRC0
        clear HRC0
        go_wp2_with fail
        refine anyH_start 10 (fun w' => Below W.heap.size W w') (by kernel_rfl) rfl ?_
        have hb0 : Below W.heap.size W W.drew := (Below.refl _ W).drew
        ((first | (refine anyH_free (i := 1) (v := ?_) rfl (by kernel_rfl) (fun _ _ _ h => h) (Or.inl ⟨rfl, fun w' hS => ?_⟩) hb0 ?_; rotate_left; (have c4 := (H4.out.below hS).rd.1; go_simp <;> with_reducible rfl)) | (refine anyH_free (i := 1) (v := undef) rfl (by kernel_rfl) (fun _ _ _ h => h) (Or.inr ⟨rfl, rfl⟩) hb0 ?_)); (simp only [Act.put, List.setIfInBounds_toArray, List.set_cons_zero, List.set_cons_succ])); ((first | (refine anyH_free (i := 3) (v := ?_) rfl (by kernel_rfl) (fun _ _ _ h => h) (Or.inl ⟨rfl, fun w' hS => ?_⟩) hb0 ?_; rotate_left; (have c4 := (H4.out.below hS).rd.1; go_simp <;> with_reducible rfl)) | (refine anyH_free (i := 3) (v := undef) rfl (by kernel_rfl) (fun _ _ _ h => h) (Or.inr ⟨rfl, rfl⟩) hb0 ?_)); (simp only [Act.put, List.setIfInBounds_toArray, List.set_cons_zero, List.set_cons_succ])); ((first | (refine anyH_free (i := 4) (v := ?_) rfl (by kernel_rfl) (fun _ _ _ h => h) (Or.inl ⟨rfl, fun w' hS => ?_⟩) hb0 ?_; rotate_left; (have c4 := (H4.out.below hS).rd.1; go_simp <;> with_reducible rfl)) | (refine anyH_free (i := 4) (v := undef) rfl (by kernel_rfl) (fun _ _ _ h => h) (Or.inr ⟨rfl, rfl⟩) hb0 ?_)); (simp only [Act.put, List.setIfInBounds_toArray, List.set_cons_zero, List.set_cons_succ])); ((first | (refine anyH_free (i := 5) (v := ?_) rfl (by kernel_rfl) (fun _ _ _ h => h) (Or.inl ⟨rfl, fun w' hS => ?_⟩) hb0 ?_; rotate_left; (have c4 := (H4.out.below hS).rd.1; go_simp <;> with_reducible rfl)) | (refine anyH_free (i := 5) (v := undef) rfl (by kernel_rfl) (fun _ _ _ h => h) (Or.inr ⟨rfl, rfl⟩) hb0 ?_)); (simp only [Act.put, List.setIfInBounds_toArray, List.set_cons_zero, List.set_cons_succ]))
        obtain ⟨Wd, hWd⟩ : ∃ Wd, W.drew = Wd := ⟨_, rfl⟩
        rw [hWd] at hb0 ⊢
        clear hWd
        have hs0 := hb0.size
        refine anyH_two (i := 0) (j := 6) rfl rfl (by kernel_rfl) rfl rfl (fun K hK => ?_) (fun K hK => ?_)
        · go_simp
          have hbE := hb0.alloc hb0.size (.cells #[] 36)
          have hoE : (Wd.alloc (.cells #[] 36)).ownsRow W.heap.size 36 7 (.slice (some ⟨Wd.heap.size, 0, none⟩) 0 0) 0 [] := World.ownsRow_lit (size := 7) (base := W.heap.size) (e := 36) Wd #[] 0 hb0.size (by decide) rfl
          refine hK _ _ hbE ?_
          clear hK K
          refine anyH_two (i := 2) (j := 6) rfl rfl (by kernel_rfl) rfl rfl (fun K hK => ?_) (fun K hK => ?_)
          · refine wp_append_sl encO_len (.tmp 24) (.tmp 25) 33 (by rfl) W.heap.size 36 i0 _ 96 Try.underlying33 HI.out HI0.out HI1.out HI2.out (by rfl) (by decide) (v := .slice (some ⟨Wd.heap.size, 0, none⟩) 0 0) (xs := []) (ys := rs) (by rfl) (by rw [← HRL.out]; rfl) hoE (HSL.out.below hbE) HRC.out (by simp only [List.length_nil]; unfold maxLen; omega) (by simp only [List.length_nil]; omega) hbE.size ?_
            intro v1 w1 hown1 hk1 hat1
            rw [List.nil_append] at hown1
            obtain ⟨p1, r1, rfl⟩ := owns_slice hown1
            have hb1 : Below W.heap.size W w1 := hbE.trans (hk1.below (fun k e => by simp only [Value.ownBlock, Option.some.injEq] at e; omega) hbE.size)
            refine hK _ _ hb1 ?_
            clear hK K
            refine anyH_sole (i := 6) rfl (by kernel_rfl) rfl (fun K hK => ?_)
            go_simp
            have hbB := hb1.alloc hb1.size (.cells #[.int .u32 m.rule, .string m.route, .int .i64 m.at_, .slice q1 m.ks.length d1, .slice q2 m.ss.length d2, .int .i64 0, .int .i64 at_] 36)
            refine hK _ _ hbB ?_
            clear hK K
            refine anyH_sole (i := 7) rfl (by kernel_rfl) rfl (fun K hK => ?_)
            refine wp_append_sl encO_len (.tmp 26) (.tmp 30) 33 (by rfl) W.heap.size 36 i0 _ 96 Try.underlying33 HI.out HI0.out HI1.out HI2.out (by rfl) (by decide) (v := .slice p1 rs.length r1) (xs := rs) (ys := [⟨⟨.slice q1 m.ks.length d1, .slice q2 m.ss.length d2, m⟩, 0, at_⟩]) (by rfl) (by rfl) (owns_keep hown1 (fun b e => Below.heap_alloc _ _ _ (hown1.lt b e).2)) (Sl.one (S := fun _ => True) encO_len (Box.new _ _ _) rfl trivial) (by simp only [List.mem_singleton]; rintro x rfl u hu; exact HOC.out u hu) (by simp only [List.length_cons, List.length_nil]; unfold maxLen; omega) (by simp only [List.length_cons, List.length_nil]; omega) hbB.size ?_
            intro v2 w2 hown2 hk2 hat2
            have hb2 := hbB.trans (hk2.below (fun b e => (hown1.lt b e).1) hbB.size)
            refine hK _ _ hb2 ?_
            clear hK K
            ((first | (refine anyH_free (i := 8) (v := ?_) rfl (by kernel_rfl) (fun _ _ _ h => h) (Or.inl ⟨rfl, fun w' hS => ?_⟩) hb2 ?_; rotate_left; (skip; go_simp <;> with_reducible rfl)) | (refine anyH_free (i := 8) (v := undef) rfl (by kernel_rfl) (fun _ _ _ h => h) (Or.inr ⟨rfl, rfl⟩) hb2 ?_)); (simp only [Act.put, List.setIfInBounds_toArray, List.set_cons_zero, List.set_cons_succ])); ((first | (refine anyH_free (i := 9) (v := ?_) rfl (by kernel_rfl) (fun _ _ _ h => h) (Or.inl ⟨rfl, fun w' hS => ?_⟩) hb2 ?_; rotate_left; (skip; go_simp <;> with_reducible rfl)) | (refine anyH_free (i := 9) (v := undef) rfl (by kernel_rfl) (fun _ _ _ h => h) (Or.inr ⟨rfl, rfl⟩) hb2 ?_)); (simp only [Act.put, List.setIfInBounds_toArray, List.set_cons_zero, List.set_cons_succ]))
            refine anyH_done (by kernel_rfl) ?_
            have HFI := Lib.hid (HQ.out _ _ (owns_lower hown2 (Nat.le_of_lt HWT.out)) hb2)
            clear hown2 hk2 hat2 hb2 hown1 hk1 hat1 hb0 c4
            go_wp2_with fail
            go_ret2
            exact HFI.out
          · go_simp
            have hbB := hbE.alloc hbE.size (.cells #[.int .u32 m.rule, .string m.route, .int .i64 m.at_, .slice q1 m.ks.length d1, .slice q2 m.ss.length d2, .int .i64 0, .int .i64 at_] 36)
            have bxB := Box.new (Wd.alloc (.cells #[] 36)) #[.int .u32 m.rule, .string m.route, .int .i64 m.at_, .slice q1 m.ks.length d1, .slice q2 m.ss.length d2, .int .i64 0, .int .i64 at_] 36
            rw [World.size_alloc] at bxB
            refine hK _ _ hbB ?_
            clear hK K
            refine anyH_sole (i := 2) rfl (by kernel_rfl) rfl (fun K hK => ?_)
            refine wp_append_sl encO_len (.tmp 24) (.tmp 25) 33 (by rfl) W.heap.size 36 i0 _ 96 Try.underlying33 HI.out HI0.out HI1.out HI2.out (by rfl) (by decide) (v := .slice (some ⟨Wd.heap.size, 0, none⟩) 0 0) (xs := []) (ys := rs) (by rfl) (by rw [← HRL.out]; rfl) (owns_keep hoE (fun b e => Below.heap_alloc _ _ _ (hoE.lt b e).2)) (HSL.out.below hbB) HRC.out (by simp only [List.length_nil]; unfold maxLen; omega) (by simp only [List.length_nil]; omega) hbB.size ?_
            intro v1 w1 hown1 hk1 hat1
            rw [List.nil_append] at hown1
            obtain ⟨p1, r1, rfl⟩ := owns_slice hown1
            have hb1 : Below W.heap.size W w1 := hbB.trans (hk1.below (fun k e => by simp only [Value.ownBlock, Option.some.injEq] at e; omega) hbB.size)
            have bxB1 := bxB.kept hk1 (fun e => by simp only [Value.ownBlock, Option.some.injEq] at e; omega)
            refine hK _ _ hb1 ?_
            clear hK K
            refine anyH_sole (i := 7) rfl (by kernel_rfl) rfl (fun K hK => ?_)
            refine wp_append_sl encO_len (.tmp 26) (.tmp 30) 33 (by rfl) W.heap.size 36 i0 _ 96 Try.underlying33 HI.out HI0.out HI1.out HI2.out (by rfl) (by decide) (v := .slice p1 rs.length r1) (xs := rs) (ys := [⟨⟨.slice q1 m.ks.length d1, .slice q2 m.ss.length d2, m⟩, 0, at_⟩]) (by rfl) (by rfl) hown1 (Sl.one (S := fun _ => True) encO_len bxB1 rfl trivial) (by simp only [List.mem_singleton]; rintro x rfl u hu; exact HOC.out u hu) (by simp only [List.length_cons, List.length_nil]; unfold maxLen; omega) (by simp only [List.length_cons, List.length_nil]; omega) hb1.size ?_
            intro v2 w2 hown2 hk2 hat2
            have hb2 := hb1.trans (hk2.below (fun b e => (hown1.lt b e).1) hb1.size)
            refine hK _ _ hb2 ?_
            clear hK K
            ((first | (refine anyH_free (i := 8) (v := ?_) rfl (by kernel_rfl) (fun _ _ _ h => h) (Or.inl ⟨rfl, fun w' hS => ?_⟩) hb2 ?_; rotate_left; (skip; go_simp <;> with_reducible rfl)) | (refine anyH_free (i := 8) (v := undef) rfl (by kernel_rfl) (fun _ _ _ h => h) (Or.inr ⟨rfl, rfl⟩) hb2 ?_)); (simp only [Act.put, List.setIfInBounds_toArray, List.set_cons_zero, List.set_cons_succ])); ((first | (refine anyH_free (i := 9) (v := ?_) rfl (by kernel_rfl) (fun _ _ _ h => h) (Or.inl ⟨rfl, fun w' hS => ?_⟩) hb2 ?_; rotate_left; (skip; go_simp <;> with_reducible rfl)) | (refine anyH_free (i := 9) (v := undef) rfl (by kernel_rfl) (fun _ _ _ h => h) (Or.inr ⟨rfl, rfl⟩) hb2 ?_)); (simp only [Act.put, List.setIfInBounds_toArray, List.set_cons_zero, List.set_cons_succ]))
            refine anyH_done (by kernel_rfl) ?_
            have HFI := Lib.hid (HQ.out _ _ (owns_lower hown2 (Nat.le_of_lt HWT.out)) hb2)
            clear hown2 hk2 hat2 hb2 hown1 hk1 hat1 hb0 c4
            go_wp2_with fail
            go_ret2
            exact HFI.out
        · go_simp
          have hbB := hb0.alloc hb0.size (.cells #[.int .u32 m.rule, .string m.route, .int .i64 m.at_, .slice q1 m.ks.length d1, .slice q2 m.ss.length d2, .int .i64 0, .int .i64 at_] 36)
          have bxB := (Box.new Wd #[.int .u32 m.rule, .string m.route, .int .i64 m.at_, .slice q1 m.ks.length d1, .slice q2 m.ss.length d2, .int .i64 0, .int .i64 at_] 36).alloc (.cells #[] 36)
          refine hK _ _ hbB ?_
          clear hK K
          refine anyH_sole (i := 0) rfl (by kernel_rfl) rfl (fun K hK => ?_)
          go_simp
          have hbE := hbB.alloc hbB.size (.cells #[] 36)
          have hoE : ((Wd.alloc (.cells #[.int .u32 m.rule, .string m.route, .int .i64 m.at_, .slice q1 m.ks.length d1, .slice q2 m.ss.length d2, .int .i64 0, .int .i64 at_] 36)).alloc (.cells #[] 36)).ownsRow W.heap.size 36 7 (.slice (some ⟨(Wd.alloc (.cells #[.int .u32 m.rule, .string m.route, .int .i64 m.at_, .slice q1 m.ks.length d1, .slice q2 m.ss.length d2, .int .i64 0, .int .i64 at_] 36)).heap.size, 0, none⟩) 0 0) 0 [] := World.ownsRow_lit (size := 7) (base := W.heap.size) (e := 36) _ #[] 0 hbB.size (by decide) rfl
          rw [World.size_alloc] at hoE
          refine hK _ _ hbE ?_
          clear hK K
          refine anyH_sole (i := 2) rfl (by kernel_rfl) rfl (fun K hK => ?_)
          refine wp_append_sl encO_len (.tmp 24) (.tmp 25) 33 (by rfl) W.heap.size 36 i0 _ 96 Try.underlying33 HI.out HI0.out HI1.out HI2.out (by rfl) (by decide) (v := .slice (some ⟨Wd.heap.size + 1, 0, none⟩) 0 0) (xs := []) (ys := rs) (by rfl) (by rw [← HRL.out]; rfl) hoE (HSL.out.below hbE) HRC.out (by simp only [List.length_nil]; unfold maxLen; omega) (by simp only [List.length_nil]; omega) hbE.size ?_
          intro v1 w1 hown1 hk1 hat1
          rw [List.nil_append] at hown1
          obtain ⟨p1, r1, rfl⟩ := owns_slice hown1
          have hb1 : Below W.heap.size W w1 := hbE.trans (hk1.below (fun k e => by simp only [Value.ownBlock, Option.some.injEq] at e; omega) hbE.size)
          have bxB1 := bxB.kept hk1 (fun e => by simp only [Value.ownBlock, Option.some.injEq] at e; omega)
          refine hK _ _ hb1 ?_
          clear hK K
          refine anyH_sole (i := 7) rfl (by kernel_rfl) rfl (fun K hK => ?_)
          refine wp_append_sl encO_len (.tmp 26) (.tmp 30) 33 (by rfl) W.heap.size 36 i0 _ 96 Try.underlying33 HI.out HI0.out HI1.out HI2.out (by rfl) (by decide) (v := .slice p1 rs.length r1) (xs := rs) (ys := [⟨⟨.slice q1 m.ks.length d1, .slice q2 m.ss.length d2, m⟩, 0, at_⟩]) (by rfl) (by rfl) hown1 (Sl.one (S := fun _ => True) encO_len bxB1 rfl trivial) (by simp only [List.mem_singleton]; rintro x rfl u hu; exact HOC.out u hu) (by simp only [List.length_cons, List.length_nil]; unfold maxLen; omega) (by simp only [List.length_cons, List.length_nil]; omega) hb1.size ?_
          intro v2 w2 hown2 hk2 hat2
          have hb2 := hb1.trans (hk2.below (fun b e => (hown1.lt b e).1) hb1.size)
          refine hK _ _ hb2 ?_
          clear hK K
          ((first | (refine anyH_free (i := 8) (v := ?_) rfl (by kernel_rfl) (fun _ _ _ h => h) (Or.inl ⟨rfl, fun w' hS => ?_⟩) hb2 ?_; rotate_left; (skip; go_simp <;> with_reducible rfl)) | (refine anyH_free (i := 8) (v := undef) rfl (by kernel_rfl) (fun _ _ _ h => h) (Or.inr ⟨rfl, rfl⟩) hb2 ?_)); (simp only [Act.put, List.setIfInBounds_toArray, List.set_cons_zero, List.set_cons_succ])); ((first | (refine anyH_free (i := 9) (v := ?_) rfl (by kernel_rfl) (fun _ _ _ h => h) (Or.inl ⟨rfl, fun w' hS => ?_⟩) hb2 ?_; rotate_left; (skip; go_simp <;> with_reducible rfl)) | (refine anyH_free (i := 9) (v := undef) rfl (by kernel_rfl) (fun _ _ _ h => h) (Or.inr ⟨rfl, rfl⟩) hb2 ?_)); (simp only [Act.put, List.setIfInBounds_toArray, List.set_cons_zero, List.set_cons_succ]))
          refine anyH_done (by kernel_rfl) ?_
          have HFI := Lib.hid (HQ.out _ _ (owns_lower hown2 (Nat.le_of_lt HWT.out)) hb2)
          clear hown2 hk2 hat2 hb2 hown1 hk1 hat1 hb0 c4
          go_wp2_with fail
          go_ret2
          exact HFI.out
      · have h6' : (6 : Int) ≤ (xs.length : Int) := by omega
        obtain ⟨he1, he2⟩ := HE3.out HMI.out hhas h6
        have HQ : Hid (RAddTo A T xs m at_ w (.returned (.tuple #[.slice p0 xs.length c0, .int .i64 240])) W) := Lib.hid ⟨_, by rw [he1], by rw [he2]; exact HOLD.out _ (Below.refl _ _), HB.out⟩
        clear hhas he1 he2 c4 h6
        go_wp2_with fail
        go_ret2
        exact HQ.out
end Go.Proofs.Ytfaafndaelmbfaa
