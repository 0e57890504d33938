/- the reference's Due -/
import Derived.Test.YtajflljemfgkiaaEDue
namespace Go.Proofs.Ytajflljemfgkiaa
open Go.RowKit Mut
attribute [local go_sem] Oper.semAt_some
set_option maxRecDepth 100000 in
set_option maxHeartbeats 4000000 in
theorem rdue_any {S T U : Nat → Prop} {R : Rl} {v2 v3 : Value} {ms : List MuteD} {l : List Al} {at_ : Int} {w : World} (hr : Ro S w R) (hm : Sl T w v2 10 encU ms) (hl : Sl U w v3 5 encA l) (hn : ms.length ≤ 100000) (hn2 : R.mutes.length ≤ 100000) (hn3 : l.length ≤ 100000) (hnear : NearP R l at_) :
    Calls Try.prog 20 #[rv R, v2, v3, .int .i64 at_] w (DueTo (dueL R ms l at_) w) := by
  have hb0 : Below w.heap.size w (w.alloc (.cells (rc R) 25)) := (Below.refl _ w).alloc (Nat.le_refl _) _
  have b4 := Box.new w (rc R) 25
  have hr0 : Ro S (w.alloc (.cells (rc R) 25)) R := ⟨hr.m.below hb0, hr.n⟩
  have HMU := Lib.hid (rmuted_any (at_ := at_) hr0 (hm.below hb0) hn hn2)
  have HL := Lib.hid (hl.below hb0)
  have hnv := hr.n
  have hmv := hr.m.oneCell
  obtain ⟨p2, c2, rfl, -, -⟩ := hm.len
  obtain ⟨p3, c3, rfl, -, -⟩ := hl.len
  obtain ⟨W0, hW0⟩ : ∃ W0, (w.alloc (.cells (rc R) 25)) = W0 := ⟨_, rfl⟩
  rw [hW0] at hb0 b4 HMU HL
  have HW0 := Lib.hid hW0
  have HB0 := Lib.hid hb0
  have H4 := Lib.hid b4
  have HNR := Lib.hid hnear
  obtain ⟨i0, hi, hi0, hi1, hi2⟩ := info_parts info_string
  have HI := Lib.hid hi
  have HI0 := Lib.hid hi0
  have HI1 := Lib.hid hi1
  have HI2 := Lib.hid hi2
  clear hr hm hl hr0 hb0 hW0 hnear hi hi0 hi1 hi2
  obtain ⟨nm, by0, nv, fr, ev, rp, mvv, mu, rt⟩ := R
  simp only at hnv hmv
  have c4 := b4.rd.1
  clear b4
  go_enter Try.func20, Try.ntmps20
  go_wp2_with fail
  rw [HW0.out]
  go_wp2_with fail
  refine HMU.out.mono ?_
  rintro e w1 ⟨rfl, hb⟩
  have HB1 := Lib.hid (HB0.out.trans (hb.mono HB0.out.size))
  have HB01 := Lib.hid hb
  obtain ⟨q, hq⟩ : ∃ q, mutedB ms mu at_ = q := ⟨_, rfl⟩
  rw [hq]
  have HQ := Lib.hid hq
  clear hb hq c4 HMU
  cases q with
  | true =>
    go_wp2_with fail
    go_ret
    have e : dueL ⟨nm, by0, nv, fr, ev, rp, mvv, mu, rt⟩ ms l at_ = [] := by unfold dueL; rw [if_pos HQ.out]
    rw [e]
    exact ⟨_, rfl, World.ownsRow_nil _ _ _ _, HB1.out⟩
  | false =>
    go_wp2_with fail
    go_loopw [9, 10, 11] (fun nv_ iv_ _ wr => ∃ (k : Nat) (q : Option Addr) (zs : List ByteArray) (d : Nat), nv_ = .slice q zs.length d ∧ iv_ = .int .i64 k ∧ k ≤ l.length ∧ zs = dueK rp (l.take k) at_ ∧ wr.ownsRow W0.heap.size 9 1 (.slice q zs.length d) zs.length (zs.flatMap encS) ∧ Below W0.heap.size W0 wr) (fun _ iv_ _ _ => l.length - (intOf iv_).toNat)
    · exact ⟨0, none, [], 0, rfl, rfl, by omega, rfl, World.ownsRow_nil _ _ _ _, HB01.out⟩
    obtain ⟨k, q, zs, d, rfl, rfl, hk, hz, how, hB⟩ := hrel
    have hzk : zs.length ≤ 100000 := by
      have := dueK_len rp at_ (l.take k)
      rw [← hz, List.length_take] at this
      omega
    have HZ := Lib.hid hz
    have HOW := Lib.hid how
    have HB := Lib.hid hB
    clear hz how hB HB1
    by_cases hlt : k < l.length
    · have hzk2 : zs.length ≤ k := by
        have := dueK_len rp at_ (l.take k)
        rw [← HZ.out, List.length_take] at this
        omega
      have HZK := Lib.hid hzk2
      clear hzk2
      obtain ⟨⟨r, by_, st, si, t⟩, hx⟩ : ∃ x, l[k]? = some x := ⟨_, List.getElem?_eq_getElem hlt⟩
      obtain ⟨ad, rfl, -, -, hrow⟩ := (HL.out.below HB.out).at hx
      obtain ⟨x0, x1, x2, x3, x4⟩ := cells_A hrow hx
      simp only at x1 x2 x4
      have hkk : (k : Int) < (l.length : Int) := by omega
      have hnt := HNR.out.1 _ (List.mem_of_getElem? hx)
      have hna := HNR.out.2
      simp only at hnt hna
      have hbx := H4.out.below HB.out
      have HSN := Lib.hid (dueK_snoc (rep := rp) (at_ := at_) hx)
      rw [← HZ.out] at HSN
      have HW : Hid (IntKind.i64.wrap (at_ - t) = at_ - t) := Lib.hid (IntWalk.i64_in _ ⟨by omega, by omega⟩)
      obtain ⟨q1, e1⟩ : ∃ q, (st == 2) = q := ⟨_, rfl⟩
      obtain ⟨q2, e2⟩ : ∃ q, decide (t < 0) = q := ⟨_, rfl⟩
      obtain ⟨q3, e3⟩ : ∃ q, decide (rp ≤ IntKind.i64.wrap (at_ - t)) = q := ⟨_, rfl⟩
      have HDB : Hid (dueB rp at_ ⟨r, by_, st, si, t⟩ = (q1 && (q2 || q3))) := Lib.hid (by
        rw [← e1, ← e2, ← e3, HW.out]
        unfold dueB
        simp only
        rw [Bool.eq_iff_iff]
        simp)
      clear hx hrow hnt hna x0 x3
      go_wp2_with fail
      cases q1 with
      | false =>
        have HF : Hid (dueB rp at_ ⟨r, by_, st, si, t⟩ = false) := Lib.hid (by rw [HDB.out]; rfl)
        refine wp_region_ordH [0, 1, 2, 3, 4, 5, 6, 7, 8, 9, 10, 11, 12, 13, 14, 15, 16, 17, 18, 19, 20, 21, 22, 23, 24, 25, 26] (fun w' => Below wr.heap.size wr w') (by kernel_rfl) (by kernel_rfl) ?_
        have hb0 : Below wr.heap.size wr wr.drew := (Below.refl _ wr).drew
        iterate 27 ((first | (refine ordH_free (v := ?_) rfl (by kernel_rfl) (fun _ _ _ h => h) (Or.inl ⟨rfl, fun w' hS => ?_⟩) hb0 ?_; rotate_left; (have x2 := cell_below x2 hS; have x4 := cell_below x4 hS; have cx := (hbx.below hS).rd.1; go_simp <;> with_reducible rfl)) | (refine ordH_free (v := undef) rfl (by kernel_rfl) (fun _ _ _ h => h) (Or.inr ⟨rfl, rfl⟩) hb0 ?_)); (simp only [Act.put, List.setIfInBounds_toArray, List.set_cons_zero, List.set_cons_succ]))
        refine ⟨by kernel_rfl, ?_⟩
        have HB7 : Hid (Below W0.heap.size W0 wr.drew) := Lib.hid (HB.out.drew)
        have HOW7 := Lib.hid (owns_keep HOW.out (fun b e => hb0.block b (HOW.out.lt b e).2))
        have x1 := cell_below x1 hb0
        clear x2 x4 hb0 hbx e1 e2 e3
        obtain ⟨W7, hW7⟩ : ∃ W7, W7 = wr.drew := ⟨_, rfl⟩
        rw [← hW7] at HB7 HOW7 x1 ⊢
        clear hW7
        go_wp2_with fail
        exact ⟨⟨k + 1, q, zs, d, rfl, by simp, by omega, by rw [HSN.out]; exact (dueS_no (.inl HF.out)).symm, HOW7.out, HB7.out⟩, by simp [intOf]; omega⟩
      | true =>
        cases q2 with
        | true =>
          have HT : Hid (dueB rp at_ ⟨r, by_, st, si, t⟩ = true) := Lib.hid (by rw [HDB.out]; rfl)
          refine wp_region_ordH [0, 1, 2, 3, 4, 5, 6, 7, 8, 9, 10, 11, 12, 13, 14, 15, 16, 17, 18, 19, 20, 21, 22, 23, 24, 25, 26] (fun w' => Below wr.heap.size wr w') (by kernel_rfl) (by kernel_rfl) ?_
          have hb0 : Below wr.heap.size wr wr.drew := (Below.refl _ wr).drew
          iterate 27 ((first | (refine ordH_free (v := ?_) rfl (by kernel_rfl) (fun _ _ _ h => h) (Or.inl ⟨rfl, fun w' hS => ?_⟩) hb0 ?_; rotate_left; (have x2 := cell_below x2 hS; have x4 := cell_below x4 hS; have cx := (hbx.below hS).rd.1; go_simp <;> with_reducible rfl)) | (refine ordH_free (v := undef) rfl (by kernel_rfl) (fun _ _ _ h => h) (Or.inr ⟨rfl, rfl⟩) hb0 ?_)); (simp only [Act.put, List.setIfInBounds_toArray, List.set_cons_zero, List.set_cons_succ]))
          refine ⟨by kernel_rfl, ?_⟩
          have HB7 : Hid (Below W0.heap.size W0 wr.drew) := Lib.hid (HB.out.drew)
          have HOW7 := Lib.hid (owns_keep HOW.out (fun b e => hb0.block b (HOW.out.lt b e).2))
          have x1 := cell_below x1 hb0
          clear x2 x4 hb0 hbx e1 e2 e3
          obtain ⟨W7, hW7⟩ : ∃ W7, W7 = wr.drew := ⟨_, rfl⟩
          rw [← hW7] at HB7 HOW7 x1 ⊢
          clear hW7
          have HHK := Lib.hid (has_any (s := by_) (Sl.owned encS_len HOW7.out) hzk)
          go_wp2_with fail
          refine HHK.out.mono ?_
          rintro e w6 ⟨rfl, rfl⟩
          cases hhas : hasK zs by_ with
          | true =>
            have HH := Lib.hid hhas
            clear hhas HHK
            go_wp2_with fail
            exact ⟨⟨k + 1, q, zs, d, rfl, by simp, by omega, by rw [HSN.out]; exact (dueS_no (.inr HH.out)).symm, HOW7.out, HB7.out⟩, by simp [intOf]; omega⟩
          | false =>
            have HST : Hid (dueK rp (l.take (k + 1)) at_ = zs ++ [by_]) := Lib.hid (by rw [HSN.out]; exact dueS_yes HT.out hhas)
            clear hhas HHK
            have hzk3 := HZK.out
            go_wp2_with (at_builtin; refine wpList_append_sl encS_len rfl (.tmp 60) (.tmp 66) 23 rfl W0.heap.size 9 i0 _ 16 Try.underlying23 HI.out HI0.out HI1.out HI2.out rfl (by decide) (v := .slice q zs.length d) (xs := zs) (ys := [by_]) (by rfl) (by rfl) (owns_keep HOW7.out (fun b e => Below.heap_alloc _ _ _ (HOW7.out.lt b e).2)) (Sl.one (S := fun _ => True) encS_len (Box.new _ _ _) rfl trivial) (by simp [Value.oneCell']) (by simp only [List.length_cons, List.length_nil]; unfold maxLen; omega) (by simp only [List.length_cons, List.length_nil]; omega) (by have := HB7.out.size; rw [World.size_alloc]; omega) ?_; intro v5 w5 hown5 hk5 hat5; obtain ⟨q5, d5, rfl⟩ := owns_slice hown5)
            have hk6 := Kept.first ((Below.refl _ W7).alloc (Nat.le_refl _) _) hk5
            refine ⟨⟨k + 1, q5, zs ++ [by_], d5, by simp, by simp, by omega, HST.out.symm, hown5, HB7.out.trans (hk6.below (fun b e => (HOW7.out.lt b e).1) HB7.out.size)⟩, by simp [intOf]; omega⟩
        | false =>
          cases q3 with
          | true =>
            have HT : Hid (dueB rp at_ ⟨r, by_, st, si, t⟩ = true) := Lib.hid (by rw [HDB.out]; rfl)
            refine wp_region_ordH [0, 1, 2, 3, 4, 5, 6, 7, 8, 9, 10, 11, 12, 13, 14, 15, 16, 17, 18, 19, 20, 21, 22, 23, 24, 25, 26] (fun w' => Below wr.heap.size wr w') (by kernel_rfl) (by kernel_rfl) ?_
            have hb0 : Below wr.heap.size wr wr.drew := (Below.refl _ wr).drew
            iterate 27 ((first | (refine ordH_free (v := ?_) rfl (by kernel_rfl) (fun _ _ _ h => h) (Or.inl ⟨rfl, fun w' hS => ?_⟩) hb0 ?_; rotate_left; (have x2 := cell_below x2 hS; have x4 := cell_below x4 hS; have cx := (hbx.below hS).rd.1; go_simp <;> with_reducible rfl)) | (refine ordH_free (v := undef) rfl (by kernel_rfl) (fun _ _ _ h => h) (Or.inr ⟨rfl, rfl⟩) hb0 ?_)); (simp only [Act.put, List.setIfInBounds_toArray, List.set_cons_zero, List.set_cons_succ]))
            refine ⟨by kernel_rfl, ?_⟩
            have HB7 : Hid (Below W0.heap.size W0 wr.drew) := Lib.hid (HB.out.drew)
            have HOW7 := Lib.hid (owns_keep HOW.out (fun b e => hb0.block b (HOW.out.lt b e).2))
            have x1 := cell_below x1 hb0
            clear x2 x4 hb0 hbx e1 e2 e3
            obtain ⟨W7, hW7⟩ : ∃ W7, W7 = wr.drew := ⟨_, rfl⟩
            rw [← hW7] at HB7 HOW7 x1 ⊢
            clear hW7
            have HHK := Lib.hid (has_any (s := by_) (Sl.owned encS_len HOW7.out) hzk)
            go_wp2_with fail
            refine HHK.out.mono ?_
            rintro e w6 ⟨rfl, rfl⟩
            cases hhas : hasK zs by_ with
            | true =>
              have HH := Lib.hid hhas
              clear hhas HHK
              go_wp2_with fail
              exact ⟨⟨k + 1, q, zs, d, rfl, by simp, by omega, by rw [HSN.out]; exact (dueS_no (.inr HH.out)).symm, HOW7.out, HB7.out⟩, by simp [intOf]; omega⟩
            | false =>
              have HST : Hid (dueK rp (l.take (k + 1)) at_ = zs ++ [by_]) := Lib.hid (by rw [HSN.out]; exact dueS_yes HT.out hhas)
              clear hhas HHK
              have hzk3 := HZK.out
              go_wp2_with (at_builtin; refine wpList_append_sl encS_len rfl (.tmp 60) (.tmp 66) 23 rfl W0.heap.size 9 i0 _ 16 Try.underlying23 HI.out HI0.out HI1.out HI2.out rfl (by decide) (v := .slice q zs.length d) (xs := zs) (ys := [by_]) (by rfl) (by rfl) (owns_keep HOW7.out (fun b e => Below.heap_alloc _ _ _ (HOW7.out.lt b e).2)) (Sl.one (S := fun _ => True) encS_len (Box.new _ _ _) rfl trivial) (by simp [Value.oneCell']) (by simp only [List.length_cons, List.length_nil]; unfold maxLen; omega) (by simp only [List.length_cons, List.length_nil]; omega) (by have := HB7.out.size; rw [World.size_alloc]; omega) ?_; intro v5 w5 hown5 hk5 hat5; obtain ⟨q5, d5, rfl⟩ := owns_slice hown5)
              have hk6 := Kept.first ((Below.refl _ W7).alloc (Nat.le_refl _) _) hk5
              refine ⟨⟨k + 1, q5, zs ++ [by_], d5, by simp, by simp, by omega, HST.out.symm, hown5, HB7.out.trans (hk6.below (fun b e => (HOW7.out.lt b e).1) HB7.out.size)⟩, by simp [intOf]; omega⟩
          | false =>
            have HF : Hid (dueB rp at_ ⟨r, by_, st, si, t⟩ = false) := Lib.hid (by rw [HDB.out]; rfl)
            refine wp_region_ordH [0, 1, 2, 3, 4, 5, 6, 7, 8, 9, 10, 11, 12, 13, 14, 15, 16, 17, 18, 19, 20, 21, 22, 23, 24, 25, 26] (fun w' => Below wr.heap.size wr w') (by kernel_rfl) (by kernel_rfl) ?_
            have hb0 : Below wr.heap.size wr wr.drew := (Below.refl _ wr).drew
            iterate 27 ((first | (refine ordH_free (v := ?_) rfl (by kernel_rfl) (fun _ _ _ h => h) (Or.inl ⟨rfl, fun w' hS => ?_⟩) hb0 ?_; rotate_left; (have x2 := cell_below x2 hS; have x4 := cell_below x4 hS; have cx := (hbx.below hS).rd.1; go_simp <;> with_reducible rfl)) | (refine ordH_free (v := undef) rfl (by kernel_rfl) (fun _ _ _ h => h) (Or.inr ⟨rfl, rfl⟩) hb0 ?_)); (simp only [Act.put, List.setIfInBounds_toArray, List.set_cons_zero, List.set_cons_succ]))
            refine ⟨by kernel_rfl, ?_⟩
            have HB7 : Hid (Below W0.heap.size W0 wr.drew) := Lib.hid (HB.out.drew)
            have HOW7 := Lib.hid (owns_keep HOW.out (fun b e => hb0.block b (HOW.out.lt b e).2))
            have x1 := cell_below x1 hb0
            clear x2 x4 hb0 hbx e1 e2 e3
            obtain ⟨W7, hW7⟩ : ∃ W7, W7 = wr.drew := ⟨_, rfl⟩
            rw [← hW7] at HB7 HOW7 x1 ⊢
            clear hW7
            go_wp2_with fail
            exact ⟨⟨k + 1, q, zs, d, rfl, by simp, by omega, by rw [HSN.out]; exact (dueS_no (.inl HF.out)).symm, HOW7.out, HB7.out⟩, by simp [intOf]; omega⟩
    · obtain rfl : k = l.length := by omega
      rw [List.take_length] at HZ
      have HE : Hid (dueL ⟨nm, by0, nv, fr, ev, rp, mvv, mu, rt⟩ ms l at_ = zs) := Lib.hid (by unfold dueL; rw [if_neg (by simp only; rw [HQ.out]; simp), HZ.out])
      clear hzk
      go_wp2_with fail
      go_ret
      rw [HE.out]
      exact ⟨_, rfl, owns_lower HOW.out HB0.out.size, HB0.out.trans (HB.out.mono HB0.out.size)⟩
end Go.Proofs.Ytajflljemfgkiaa
