/- OutboxNil's walk -/
import Derived.Test.YtfaafndaelmbfaaOGrt
namespace Go.Proofs.Ytfaafndaelmbfaa
open Go.RowKit
attribute [local go_sem] Oper.semAt_some

abbrev tc (x : Int × Mr × Int) : Array Value := #[.int .u8 x.1, .int .u32 x.2.1.m.rule, .string x.2.1.m.route, .int .i64 x.2.1.m.at_, x.2.1.kv, x.2.1.sv, .int .i64 x.2.2]
abbrev tv (x : Int × Mr × Int) : Value := .agg #[.int .u8 x.1, .int .u32 x.2.1.m.rule, .string x.2.1.m.route, .int .i64 x.2.1.m.at_, x.2.1.kv, x.2.1.sv, .int .i64 x.2.2]
set_option maxRecDepth 100000 in
set_option maxHeartbeats 4000000 in
theorem outboxNil_any {x : Int × Mr × Int} {w : World} (h : (Lit.int .u8 x.1).wf = true ∧ Mo (fun _ => True) w x.2.1 ∧ (Lit.int .i64 x.2.2).wf = true) : Calls Try.prog 6 #[tv x] w (Tells (.bool true) w) := by
  obtain ⟨-, hm, -⟩ := h
  obtain ⟨kd, r, at_⟩ := x
  simp only at hm
  obtain ⟨q1, d1, q2, d2, hr⟩ := hm.open
  obtain ⟨m, hmm⟩ : ∃ m, m = r.m := ⟨_, rfl⟩
  rw [← hmm] at hr
  subst hr
  clear hmm
  obtain ⟨X, hX⟩ : ∃ X : Int × Mr × Int, X = (kd, ⟨.slice q1 m.ks.length d1, .slice q2 m.ss.length d2, m⟩, at_) := ⟨_, rfl⟩
  have hm' : Mo (fun _ => True) w X.2.1 := by rw [hX]; exact hm
  have b1 := Box.new w (tc X) 46
  have b2 := Box.new (w.alloc (.cells (tc X) 46)) (tc X) 46
  rw [World.size_alloc] at b2
  have hb0 : Below w.heap.size w ((w.alloc (.cells (tc X) 46)).alloc (.cells (tc X) 46)) := ((Below.refl _ w).alloc (Nat.le_refl _) _).alloc (by simp) _
  have b1 := b1.alloc (.cells (tc X) 46)
  have hsl : Sl (fun _ => True) ((w.alloc (.cells (tc X) 46)).alloc (.cells (tc X) 46)) (.slice (some ⟨w.heap.size + 1, 0, none⟩) 1 1) 7 encT [X] := Sl.one encT_len b2 rfl trivial
  have HG := Lib.hid (great_any hsl (T := fun _ => True) (fun x hx => by rw [List.mem_singleton.1 hx]; exact hm'.below hb0))
  subst hX
  obtain ⟨W0, hW0⟩ : ∃ W0, ((w.alloc (.cells (tc (kd, ⟨.slice q1 m.ks.length d1, .slice q2 m.ss.length d2, m⟩, at_)) 46)).alloc (.cells (tc (kd, ⟨.slice q1 m.ks.length d1, .slice q2 m.ss.length d2, m⟩, at_)) 46)) = W0 := ⟨_, rfl⟩
  rw [hW0] at HG b1 hb0
  have HW0 := Lib.hid hW0
  have HB0 := Lib.hid hb0
  have HX := Lib.hid b1
  clear hsl b2 b1 hb0 hW0 hm hm'
  go_enter Try.func6, Try.ntmps6
  go_wp2_with fail
  rw [HW0.out]
  refine HG.out.mono ?_
  rintro e w1 ⟨bg, rfl, -, hb⟩
  have HB1 := Lib.hid (HB0.out.trans (hb.mono HB0.out.size))
  have HX1 := Lib.hid (HX.out.below hb)
  clear hb HG HW0 HB0 HX
  cases bg with
  | true =>
    go_wp2_with fail
    go_ret
    exact ⟨rfl, HB1.out⟩
  | false =>
    go_wp2_with fail
    refine code_gen (fun W => Below w.heap.size w W ∧ Box W w.heap.size (tc (kd, ⟨.slice q1 m.ks.length d1, .slice q2 m.ss.length d2, m⟩, at_)) 46 ∧ Box W w1.heap.size #[.slice none 0 0, .bool false] 50 ∧ Box W (w1.heap.size + 1) #[.pointer none, bv w1.heap.size] 23) ⟨?_, ?_, ?_, ?_⟩ ?_
    · exact (HB1.out.alloc HB1.out.size _).alloc (by have := HB1.out.size; simp only [World.size_alloc]; omega) _
    · exact (HX1.out.alloc _).alloc _
    · exact (Box.new w1 _ _).alloc _
    · have := Box.new (w1.alloc (.cells #[.slice none 0 0, .bool false] 50)) #[.pointer none, bv w1.heap.size] 23
      rw [World.size_alloc] at this
      exact this
    obtain ⟨bq, hbq⟩ : ∃ bq, bq = w1.heap.size := ⟨_, rfl⟩
    rw [← hbq]
    rintro W ⟨h1, h2, h3, h4⟩
    clear hbq HX1 HB1 w1
    go_loopw [5] (fun iv_ wr => ∃ k : Nat, iv_ = .int .i64 k ∧ k ≤ 2 ∧ Below w.heap.size w wr ∧ Box wr w.heap.size (tc (kd, ⟨.slice q1 m.ks.length d1, .slice q2 m.ss.length d2, m⟩, at_)) 46 ∧ Box wr bq #[.slice none 0 0, .bool false] 50 ∧ Box wr (bq + 1) #[.pointer none, bv bq] 23) (fun iv_ _ => 2 - (intOf iv_).toNat)
    · exact ⟨0, rfl, by omega, h1, h2, h3, h4⟩
    clear h1 h2 h3 h4
    obtain ⟨k, rfl, hk, h1, h2, h3, h4⟩ := hrel
    have H1 := Lib.hid h1
    have H2 := Lib.hid h2
    have H3 := Lib.hid h3
    have H4 := Lib.hid h4
    by_cases hlt : k < 2
    · have hkk : (k : Int) < 2 := by omega
      obtain ⟨q, hq, hq2⟩ : ∃ q : Option Addr, wr.cell? ⟨bq + 1, k, none⟩ = some (.pointer q) ∧ BNo wr (.pointer q) := by
        rcases (by omega : k = 0 ∨ k = 1) with rfl | rfl
        · exact ⟨none, h4.rd.1 0, .inl rfl⟩
        · exact ⟨some ⟨bq, 0, none⟩, h4.rd.1 1, .inr ⟨bq, rfl, h3⟩⟩
      have HQ := Lib.hid hq2
      clear h1 h2 h3 h4 hq2
      go_wp2_with fail
      refine anyH_start 51 (fun w' => Below wr.heap.size wr w') (by kernel_rfl) rfl ?_
      have hb0 : Below wr.heap.size wr wr.drew := (Below.refl _ wr).drew
      ((first | (refine anyH_free (i := 0) (v := ?_) rfl (by kernel_rfl) (fun _ _ _ h => h) (Or.inl ⟨rfl, fun w' hS => ?_⟩) hb0 ?_; rotate_left; (have d0 := cell_below hq hS; have d1 := (H2.out.below hS).rd.1; go_simp <;> with_reducible rfl)) | (refine anyH_free (i := 0) (v := undef) rfl (by kernel_rfl) (fun _ _ _ h => h) (Or.inr ⟨rfl, rfl⟩) hb0 ?_)); (simp only [Act.put, List.setIfInBounds_toArray, List.set_cons_zero, List.set_cons_succ])); ((first | (refine anyH_free (i := 1) (v := ?_) rfl (by kernel_rfl) (fun _ _ _ h => h) (Or.inl ⟨rfl, fun w' hS => ?_⟩) hb0 ?_; rotate_left; (have d0 := cell_below hq hS; have d1 := (H2.out.below hS).rd.1; go_simp <;> with_reducible rfl)) | (refine anyH_free (i := 1) (v := undef) rfl (by kernel_rfl) (fun _ _ _ h => h) (Or.inr ⟨rfl, rfl⟩) hb0 ?_)); (simp only [Act.put, List.setIfInBounds_toArray, List.set_cons_zero, List.set_cons_succ])); ((first | (refine anyH_free (i := 2) (v := ?_) rfl (by kernel_rfl) (fun _ _ _ h => h) (Or.inl ⟨rfl, fun w' hS => ?_⟩) hb0 ?_; rotate_left; (have d0 := cell_below hq hS; have d1 := (H2.out.below hS).rd.1; go_simp <;> with_reducible rfl)) | (refine anyH_free (i := 2) (v := undef) rfl (by kernel_rfl) (fun _ _ _ h => h) (Or.inr ⟨rfl, rfl⟩) hb0 ?_)); (simp only [Act.put, List.setIfInBounds_toArray, List.set_cons_zero, List.set_cons_succ])); ((first | (refine anyH_free (i := 3) (v := ?_) rfl (by kernel_rfl) (fun _ _ _ h => h) (Or.inl ⟨rfl, fun w' hS => ?_⟩) hb0 ?_; rotate_left; (have d0 := cell_below hq hS; have d1 := (H2.out.below hS).rd.1; go_simp <;> with_reducible rfl)) | (refine anyH_free (i := 3) (v := undef) rfl (by kernel_rfl) (fun _ _ _ h => h) (Or.inr ⟨rfl, rfl⟩) hb0 ?_)); (simp only [Act.put, List.setIfInBounds_toArray, List.set_cons_zero, List.set_cons_succ])); ((first | (refine anyH_free (i := 4) (v := ?_) rfl (by kernel_rfl) (fun _ _ _ h => h) (Or.inl ⟨rfl, fun w' hS => ?_⟩) hb0 ?_; rotate_left; (have d0 := cell_below hq hS; have d1 := (H2.out.below hS).rd.1; go_simp <;> with_reducible rfl)) | (refine anyH_free (i := 4) (v := undef) rfl (by kernel_rfl) (fun _ _ _ h => h) (Or.inr ⟨rfl, rfl⟩) hb0 ?_)); (simp only [Act.put, List.setIfInBounds_toArray, List.set_cons_zero, List.set_cons_succ])); ((first | (refine anyH_free (i := 5) (v := ?_) rfl (by kernel_rfl) (fun _ _ _ h => h) (Or.inl ⟨rfl, fun w' hS => ?_⟩) hb0 ?_; rotate_left; (have d0 := cell_below hq hS; have d1 := (H2.out.below hS).rd.1; go_simp <;> with_reducible rfl)) | (refine anyH_free (i := 5) (v := undef) rfl (by kernel_rfl) (fun _ _ _ h => h) (Or.inr ⟨rfl, rfl⟩) hb0 ?_)); (simp only [Act.put, List.setIfInBounds_toArray, List.set_cons_zero, List.set_cons_succ])); ((first | (refine anyH_free (i := 6) (v := ?_) rfl (by kernel_rfl) (fun _ _ _ h => h) (Or.inl ⟨rfl, fun w' hS => ?_⟩) hb0 ?_; rotate_left; (have d0 := cell_below hq hS; have d1 := (H2.out.below hS).rd.1; go_simp <;> with_reducible rfl)) | (refine anyH_free (i := 6) (v := undef) rfl (by kernel_rfl) (fun _ _ _ h => h) (Or.inr ⟨rfl, rfl⟩) hb0 ?_)); (simp only [Act.put, List.setIfInBounds_toArray, List.set_cons_zero, List.set_cons_succ])); ((first | (refine anyH_free (i := 7) (v := ?_) rfl (by kernel_rfl) (fun _ _ _ h => h) (Or.inl ⟨rfl, fun w' hS => ?_⟩) hb0 ?_; rotate_left; (have d0 := cell_below hq hS; have d1 := (H2.out.below hS).rd.1; go_simp <;> with_reducible rfl)) | (refine anyH_free (i := 7) (v := undef) rfl (by kernel_rfl) (fun _ _ _ h => h) (Or.inr ⟨rfl, rfl⟩) hb0 ?_)); (simp only [Act.put, List.setIfInBounds_toArray, List.set_cons_zero, List.set_cons_succ]))
      refine anyH_sole (i := 8) rfl (by kernel_rfl) rfl (fun K hK => ?_)
      go_simp
      refine (add_no (r := ⟨.slice q1 m.ks.length d1, .slice q2 m.ss.length d2, m⟩) (HQ.out.below hb0)).mono ?_
      rintro e w4 ⟨rfl, hb⟩
      have hb4 := below_then hb0 hb
      refine hK _ _ hb4 ?_
      clear hK K hb
      ((first | (refine anyH_free (i := 9) (v := ?_) rfl (by kernel_rfl) (fun _ _ _ h => h) (Or.inl ⟨rfl, fun w' hS => ?_⟩) hb4 ?_; rotate_left; (have d0 := cell_below hq hS; have d1 := (H2.out.below hS).rd.1; go_simp <;> with_reducible rfl)) | (refine anyH_free (i := 9) (v := undef) rfl (by kernel_rfl) (fun _ _ _ h => h) (Or.inr ⟨rfl, rfl⟩) hb4 ?_)); (simp only [Act.put, List.setIfInBounds_toArray, List.set_cons_zero, List.set_cons_succ])); ((first | (refine anyH_free (i := 10) (v := ?_) rfl (by kernel_rfl) (fun _ _ _ h => h) (Or.inl ⟨rfl, fun w' hS => ?_⟩) hb4 ?_; rotate_left; (have d0 := cell_below hq hS; have d1 := (H2.out.below hS).rd.1; go_simp <;> with_reducible rfl)) | (refine anyH_free (i := 10) (v := undef) rfl (by kernel_rfl) (fun _ _ _ h => h) (Or.inr ⟨rfl, rfl⟩) hb4 ?_)); (simp only [Act.put, List.setIfInBounds_toArray, List.set_cons_zero, List.set_cons_succ])); ((first | (refine anyH_free (i := 11) (v := ?_) rfl (by kernel_rfl) (fun _ _ _ h => h) (Or.inl ⟨rfl, fun w' hS => ?_⟩) hb4 ?_; rotate_left; (have d0 := cell_below hq hS; have d1 := (H2.out.below hS).rd.1; go_simp <;> with_reducible rfl)) | (refine anyH_free (i := 11) (v := undef) rfl (by kernel_rfl) (fun _ _ _ h => h) (Or.inr ⟨rfl, rfl⟩) hb4 ?_)); (simp only [Act.put, List.setIfInBounds_toArray, List.set_cons_zero, List.set_cons_succ])); ((first | (refine anyH_free (i := 12) (v := ?_) rfl (by kernel_rfl) (fun _ _ _ h => h) (Or.inl ⟨rfl, fun w' hS => ?_⟩) hb4 ?_; rotate_left; (have d0 := cell_below hq hS; have d1 := (H2.out.below hS).rd.1; go_simp <;> with_reducible rfl)) | (refine anyH_free (i := 12) (v := undef) rfl (by kernel_rfl) (fun _ _ _ h => h) (Or.inr ⟨rfl, rfl⟩) hb4 ?_)); (simp only [Act.put, List.setIfInBounds_toArray, List.set_cons_zero, List.set_cons_succ])); ((first | (refine anyH_free (i := 13) (v := ?_) rfl (by kernel_rfl) (fun _ _ _ h => h) (Or.inl ⟨rfl, fun w' hS => ?_⟩) hb4 ?_; rotate_left; (have d0 := cell_below hq hS; have d1 := (H2.out.below hS).rd.1; go_simp <;> with_reducible rfl)) | (refine anyH_free (i := 13) (v := undef) rfl (by kernel_rfl) (fun _ _ _ h => h) (Or.inr ⟨rfl, rfl⟩) hb4 ?_)); (simp only [Act.put, List.setIfInBounds_toArray, List.set_cons_zero, List.set_cons_succ])); ((first | (refine anyH_free (i := 14) (v := ?_) rfl (by kernel_rfl) (fun _ _ _ h => h) (Or.inl ⟨rfl, fun w' hS => ?_⟩) hb4 ?_; rotate_left; (have d0 := cell_below hq hS; have d1 := (H2.out.below hS).rd.1; go_simp <;> with_reducible rfl)) | (refine anyH_free (i := 14) (v := undef) rfl (by kernel_rfl) (fun _ _ _ h => h) (Or.inr ⟨rfl, rfl⟩) hb4 ?_)); (simp only [Act.put, List.setIfInBounds_toArray, List.set_cons_zero, List.set_cons_succ])); ((first | (refine anyH_free (i := 15) (v := ?_) rfl (by kernel_rfl) (fun _ _ _ h => h) (Or.inl ⟨rfl, fun w' hS => ?_⟩) hb4 ?_; rotate_left; (have d0 := cell_below hq hS; have d1 := (H2.out.below hS).rd.1; go_simp <;> with_reducible rfl)) | (refine anyH_free (i := 15) (v := undef) rfl (by kernel_rfl) (fun _ _ _ h => h) (Or.inr ⟨rfl, rfl⟩) hb4 ?_)); (simp only [Act.put, List.setIfInBounds_toArray, List.set_cons_zero, List.set_cons_succ])); ((first | (refine anyH_free (i := 16) (v := ?_) rfl (by kernel_rfl) (fun _ _ _ h => h) (Or.inl ⟨rfl, fun w' hS => ?_⟩) hb4 ?_; rotate_left; (have d0 := cell_below hq hS; have d1 := (H2.out.below hS).rd.1; go_simp <;> with_reducible rfl)) | (refine anyH_free (i := 16) (v := undef) rfl (by kernel_rfl) (fun _ _ _ h => h) (Or.inr ⟨rfl, rfl⟩) hb4 ?_)); (simp only [Act.put, List.setIfInBounds_toArray, List.set_cons_zero, List.set_cons_succ]))
      refine anyH_sole (i := 17) rfl (by kernel_rfl) rfl (fun K hK => ?_)
      go_simp
      refine (pump_no (HQ.out.below hb4)).mono ?_
      rintro e w5 ⟨rfl, hb⟩
      have hb5 := below_then hb4 hb
      refine hK _ _ hb5 ?_
      clear hK K hb hb4
      ((first | (refine anyH_free (i := 18) (v := ?_) rfl (by kernel_rfl) (fun _ _ _ h => h) (Or.inl ⟨rfl, fun w' hS => ?_⟩) hb5 ?_; rotate_left; (have d0 := cell_below hq hS; have d1 := (H2.out.below hS).rd.1; go_simp <;> with_reducible rfl)) | (refine anyH_free (i := 18) (v := undef) rfl (by kernel_rfl) (fun _ _ _ h => h) (Or.inr ⟨rfl, rfl⟩) hb5 ?_)); (simp only [Act.put, List.setIfInBounds_toArray, List.set_cons_zero, List.set_cons_succ])); ((first | (refine anyH_free (i := 19) (v := ?_) rfl (by kernel_rfl) (fun _ _ _ h => h) (Or.inl ⟨rfl, fun w' hS => ?_⟩) hb5 ?_; rotate_left; (have d0 := cell_below hq hS; have d1 := (H2.out.below hS).rd.1; go_simp <;> with_reducible rfl)) | (refine anyH_free (i := 19) (v := undef) rfl (by kernel_rfl) (fun _ _ _ h => h) (Or.inr ⟨rfl, rfl⟩) hb5 ?_)); (simp only [Act.put, List.setIfInBounds_toArray, List.set_cons_zero, List.set_cons_succ])); ((first | (refine anyH_free (i := 20) (v := ?_) rfl (by kernel_rfl) (fun _ _ _ h => h) (Or.inl ⟨rfl, fun w' hS => ?_⟩) hb5 ?_; rotate_left; (have d0 := cell_below hq hS; have d1 := (H2.out.below hS).rd.1; go_simp <;> with_reducible rfl)) | (refine anyH_free (i := 20) (v := undef) rfl (by kernel_rfl) (fun _ _ _ h => h) (Or.inr ⟨rfl, rfl⟩) hb5 ?_)); (simp only [Act.put, List.setIfInBounds_toArray, List.set_cons_zero, List.set_cons_succ])); ((first | (refine anyH_free (i := 21) (v := ?_) rfl (by kernel_rfl) (fun _ _ _ h => h) (Or.inl ⟨rfl, fun w' hS => ?_⟩) hb5 ?_; rotate_left; (have d0 := cell_below hq hS; have d1 := (H2.out.below hS).rd.1; go_simp <;> with_reducible rfl)) | (refine anyH_free (i := 21) (v := undef) rfl (by kernel_rfl) (fun _ _ _ h => h) (Or.inr ⟨rfl, rfl⟩) hb5 ?_)); (simp only [Act.put, List.setIfInBounds_toArray, List.set_cons_zero, List.set_cons_succ])); ((first | (refine anyH_free (i := 22) (v := ?_) rfl (by kernel_rfl) (fun _ _ _ h => h) (Or.inl ⟨rfl, fun w' hS => ?_⟩) hb5 ?_; rotate_left; (have d0 := cell_below hq hS; have d1 := (H2.out.below hS).rd.1; go_simp <;> with_reducible rfl)) | (refine anyH_free (i := 22) (v := undef) rfl (by kernel_rfl) (fun _ _ _ h => h) (Or.inr ⟨rfl, rfl⟩) hb5 ?_)); (simp only [Act.put, List.setIfInBounds_toArray, List.set_cons_zero, List.set_cons_succ])); ((first | (refine anyH_free (i := 23) (v := ?_) rfl (by kernel_rfl) (fun _ _ _ h => h) (Or.inl ⟨rfl, fun w' hS => ?_⟩) hb5 ?_; rotate_left; (have d0 := cell_below hq hS; have d1 := (H2.out.below hS).rd.1; go_simp <;> with_reducible rfl)) | (refine anyH_free (i := 23) (v := undef) rfl (by kernel_rfl) (fun _ _ _ h => h) (Or.inr ⟨rfl, rfl⟩) hb5 ?_)); (simp only [Act.put, List.setIfInBounds_toArray, List.set_cons_zero, List.set_cons_succ])); ((first | (refine anyH_free (i := 24) (v := ?_) rfl (by kernel_rfl) (fun _ _ _ h => h) (Or.inl ⟨rfl, fun w' hS => ?_⟩) hb5 ?_; rotate_left; (have d0 := cell_below hq hS; have d1 := (H2.out.below hS).rd.1; go_simp <;> with_reducible rfl)) | (refine anyH_free (i := 24) (v := undef) rfl (by kernel_rfl) (fun _ _ _ h => h) (Or.inr ⟨rfl, rfl⟩) hb5 ?_)); (simp only [Act.put, List.setIfInBounds_toArray, List.set_cons_zero, List.set_cons_succ])); ((first | (refine anyH_free (i := 25) (v := ?_) rfl (by kernel_rfl) (fun _ _ _ h => h) (Or.inl ⟨rfl, fun w' hS => ?_⟩) hb5 ?_; rotate_left; (have d0 := cell_below hq hS; have d1 := (H2.out.below hS).rd.1; go_simp <;> with_reducible rfl)) | (refine anyH_free (i := 25) (v := undef) rfl (by kernel_rfl) (fun _ _ _ h => h) (Or.inr ⟨rfl, rfl⟩) hb5 ?_)); (simp only [Act.put, List.setIfInBounds_toArray, List.set_cons_zero, List.set_cons_succ])); ((first | (refine anyH_free (i := 26) (v := ?_) rfl (by kernel_rfl) (fun _ _ _ h => h) (Or.inl ⟨rfl, fun w' hS => ?_⟩) hb5 ?_; rotate_left; (have d0 := cell_below hq hS; have d1 := (H2.out.below hS).rd.1; go_simp <;> with_reducible rfl)) | (refine anyH_free (i := 26) (v := undef) rfl (by kernel_rfl) (fun _ _ _ h => h) (Or.inr ⟨rfl, rfl⟩) hb5 ?_)); (simp only [Act.put, List.setIfInBounds_toArray, List.set_cons_zero, List.set_cons_succ])); ((first | (refine anyH_free (i := 27) (v := ?_) rfl (by kernel_rfl) (fun _ _ _ h => h) (Or.inl ⟨rfl, fun w' hS => ?_⟩) hb5 ?_; rotate_left; (have d0 := cell_below hq hS; have d1 := (H2.out.below hS).rd.1; go_simp <;> with_reducible rfl)) | (refine anyH_free (i := 27) (v := undef) rfl (by kernel_rfl) (fun _ _ _ h => h) (Or.inr ⟨rfl, rfl⟩) hb5 ?_)); (simp only [Act.put, List.setIfInBounds_toArray, List.set_cons_zero, List.set_cons_succ])); ((first | (refine anyH_free (i := 28) (v := ?_) rfl (by kernel_rfl) (fun _ _ _ h => h) (Or.inl ⟨rfl, fun w' hS => ?_⟩) hb5 ?_; rotate_left; (have d0 := cell_below hq hS; have d1 := (H2.out.below hS).rd.1; go_simp <;> with_reducible rfl)) | (refine anyH_free (i := 28) (v := undef) rfl (by kernel_rfl) (fun _ _ _ h => h) (Or.inr ⟨rfl, rfl⟩) hb5 ?_)); (simp only [Act.put, List.setIfInBounds_toArray, List.set_cons_zero, List.set_cons_succ])); ((first | (refine anyH_free (i := 29) (v := ?_) rfl (by kernel_rfl) (fun _ _ _ h => h) (Or.inl ⟨rfl, fun w' hS => ?_⟩) hb5 ?_; rotate_left; (have d0 := cell_below hq hS; have d1 := (H2.out.below hS).rd.1; go_simp <;> with_reducible rfl)) | (refine anyH_free (i := 29) (v := undef) rfl (by kernel_rfl) (fun _ _ _ h => h) (Or.inr ⟨rfl, rfl⟩) hb5 ?_)); (simp only [Act.put, List.setIfInBounds_toArray, List.set_cons_zero, List.set_cons_succ])); ((first | (refine anyH_free (i := 30) (v := ?_) rfl (by kernel_rfl) (fun _ _ _ h => h) (Or.inl ⟨rfl, fun w' hS => ?_⟩) hb5 ?_; rotate_left; (have d0 := cell_below hq hS; have d1 := (H2.out.below hS).rd.1; go_simp <;> with_reducible rfl)) | (refine anyH_free (i := 30) (v := undef) rfl (by kernel_rfl) (fun _ _ _ h => h) (Or.inr ⟨rfl, rfl⟩) hb5 ?_)); (simp only [Act.put, List.setIfInBounds_toArray, List.set_cons_zero, List.set_cons_succ])); ((first | (refine anyH_free (i := 31) (v := ?_) rfl (by kernel_rfl) (fun _ _ _ h => h) (Or.inl ⟨rfl, fun w' hS => ?_⟩) hb5 ?_; rotate_left; (have d0 := cell_below hq hS; have d1 := (H2.out.below hS).rd.1; go_simp <;> with_reducible rfl)) | (refine anyH_free (i := 31) (v := undef) rfl (by kernel_rfl) (fun _ _ _ h => h) (Or.inr ⟨rfl, rfl⟩) hb5 ?_)); (simp only [Act.put, List.setIfInBounds_toArray, List.set_cons_zero, List.set_cons_succ]))
      refine anyH_sole (i := 32) rfl (by kernel_rfl) rfl (fun K hK => ?_)
      go_simp
      refine (ack_no (HQ.out.below hb5)).mono ?_
      rintro e w6 ⟨rfl, rfl⟩
      refine hK _ _ hb5 ?_
      clear hK K
      ((first | (refine anyH_free (i := 33) (v := ?_) rfl (by kernel_rfl) (fun _ _ _ h => h) (Or.inl ⟨rfl, fun w' hS => ?_⟩) hb5 ?_; rotate_left; (have d0 := cell_below hq hS; have d1 := (H2.out.below hS).rd.1; go_simp <;> with_reducible rfl)) | (refine anyH_free (i := 33) (v := undef) rfl (by kernel_rfl) (fun _ _ _ h => h) (Or.inr ⟨rfl, rfl⟩) hb5 ?_)); (simp only [Act.put, List.setIfInBounds_toArray, List.set_cons_zero, List.set_cons_succ])); ((first | (refine anyH_free (i := 34) (v := ?_) rfl (by kernel_rfl) (fun _ _ _ h => h) (Or.inl ⟨rfl, fun w' hS => ?_⟩) hb5 ?_; rotate_left; (have d0 := cell_below hq hS; have d1 := (H2.out.below hS).rd.1; go_simp <;> with_reducible rfl)) | (refine anyH_free (i := 34) (v := undef) rfl (by kernel_rfl) (fun _ _ _ h => h) (Or.inr ⟨rfl, rfl⟩) hb5 ?_)); (simp only [Act.put, List.setIfInBounds_toArray, List.set_cons_zero, List.set_cons_succ])); ((first | (refine anyH_free (i := 35) (v := ?_) rfl (by kernel_rfl) (fun _ _ _ h => h) (Or.inl ⟨rfl, fun w' hS => ?_⟩) hb5 ?_; rotate_left; (have d0 := cell_below hq hS; have d1 := (H2.out.below hS).rd.1; go_simp <;> with_reducible rfl)) | (refine anyH_free (i := 35) (v := undef) rfl (by kernel_rfl) (fun _ _ _ h => h) (Or.inr ⟨rfl, rfl⟩) hb5 ?_)); (simp only [Act.put, List.setIfInBounds_toArray, List.set_cons_zero, List.set_cons_succ])); ((first | (refine anyH_free (i := 36) (v := ?_) rfl (by kernel_rfl) (fun _ _ _ h => h) (Or.inl ⟨rfl, fun w' hS => ?_⟩) hb5 ?_; rotate_left; (have d0 := cell_below hq hS; have d1 := (H2.out.below hS).rd.1; go_simp <;> with_reducible rfl)) | (refine anyH_free (i := 36) (v := undef) rfl (by kernel_rfl) (fun _ _ _ h => h) (Or.inr ⟨rfl, rfl⟩) hb5 ?_)); (simp only [Act.put, List.setIfInBounds_toArray, List.set_cons_zero, List.set_cons_succ])); ((first | (refine anyH_free (i := 37) (v := ?_) rfl (by kernel_rfl) (fun _ _ _ h => h) (Or.inl ⟨rfl, fun w' hS => ?_⟩) hb5 ?_; rotate_left; (have d0 := cell_below hq hS; have d1 := (H2.out.below hS).rd.1; go_simp <;> with_reducible rfl)) | (refine anyH_free (i := 37) (v := undef) rfl (by kernel_rfl) (fun _ _ _ h => h) (Or.inr ⟨rfl, rfl⟩) hb5 ?_)); (simp only [Act.put, List.setIfInBounds_toArray, List.set_cons_zero, List.set_cons_succ])); ((first | (refine anyH_free (i := 38) (v := ?_) rfl (by kernel_rfl) (fun _ _ _ h => h) (Or.inl ⟨rfl, fun w' hS => ?_⟩) hb5 ?_; rotate_left; (have d0 := cell_below hq hS; have d1 := (H2.out.below hS).rd.1; go_simp <;> with_reducible rfl)) | (refine anyH_free (i := 38) (v := undef) rfl (by kernel_rfl) (fun _ _ _ h => h) (Or.inr ⟨rfl, rfl⟩) hb5 ?_)); (simp only [Act.put, List.setIfInBounds_toArray, List.set_cons_zero, List.set_cons_succ]))
      refine anyH_sole (i := 39) rfl (by kernel_rfl) rfl (fun K hK => ?_)
      go_simp
      refine (len_no (HQ.out.below hb5)).mono ?_
      rintro e w6 ⟨rfl, rfl⟩
      refine hK _ _ hb5 ?_
      clear hK K
      ((first | (refine anyH_free (i := 40) (v := ?_) rfl (by kernel_rfl) (fun _ _ _ h => h) (Or.inl ⟨rfl, fun w' hS => ?_⟩) hb5 ?_; rotate_left; (have d0 := cell_below hq hS; have d1 := (H2.out.below hS).rd.1; go_simp <;> with_reducible rfl)) | (refine anyH_free (i := 40) (v := undef) rfl (by kernel_rfl) (fun _ _ _ h => h) (Or.inr ⟨rfl, rfl⟩) hb5 ?_)); (simp only [Act.put, List.setIfInBounds_toArray, List.set_cons_zero, List.set_cons_succ])); ((first | (refine anyH_free (i := 41) (v := ?_) rfl (by kernel_rfl) (fun _ _ _ h => h) (Or.inl ⟨rfl, fun w' hS => ?_⟩) hb5 ?_; rotate_left; (have d0 := cell_below hq hS; have d1 := (H2.out.below hS).rd.1; go_simp <;> with_reducible rfl)) | (refine anyH_free (i := 41) (v := undef) rfl (by kernel_rfl) (fun _ _ _ h => h) (Or.inr ⟨rfl, rfl⟩) hb5 ?_)); (simp only [Act.put, List.setIfInBounds_toArray, List.set_cons_zero, List.set_cons_succ])); ((first | (refine anyH_free (i := 42) (v := ?_) rfl (by kernel_rfl) (fun _ _ _ h => h) (Or.inl ⟨rfl, fun w' hS => ?_⟩) hb5 ?_; rotate_left; (have d0 := cell_below hq hS; have d1 := (H2.out.below hS).rd.1; go_simp <;> with_reducible rfl)) | (refine anyH_free (i := 42) (v := undef) rfl (by kernel_rfl) (fun _ _ _ h => h) (Or.inr ⟨rfl, rfl⟩) hb5 ?_)); (simp only [Act.put, List.setIfInBounds_toArray, List.set_cons_zero, List.set_cons_succ])); ((first | (refine anyH_free (i := 43) (v := ?_) rfl (by kernel_rfl) (fun _ _ _ h => h) (Or.inl ⟨rfl, fun w' hS => ?_⟩) hb5 ?_; rotate_left; (have d0 := cell_below hq hS; have d1 := (H2.out.below hS).rd.1; go_simp <;> with_reducible rfl)) | (refine anyH_free (i := 43) (v := undef) rfl (by kernel_rfl) (fun _ _ _ h => h) (Or.inr ⟨rfl, rfl⟩) hb5 ?_)); (simp only [Act.put, List.setIfInBounds_toArray, List.set_cons_zero, List.set_cons_succ])); ((first | (refine anyH_free (i := 44) (v := ?_) rfl (by kernel_rfl) (fun _ _ _ h => h) (Or.inl ⟨rfl, fun w' hS => ?_⟩) hb5 ?_; rotate_left; (have d0 := cell_below hq hS; have d1 := (H2.out.below hS).rd.1; go_simp <;> with_reducible rfl)) | (refine anyH_free (i := 44) (v := undef) rfl (by kernel_rfl) (fun _ _ _ h => h) (Or.inr ⟨rfl, rfl⟩) hb5 ?_)); (simp only [Act.put, List.setIfInBounds_toArray, List.set_cons_zero, List.set_cons_succ])); ((first | (refine anyH_free (i := 45) (v := ?_) rfl (by kernel_rfl) (fun _ _ _ h => h) (Or.inl ⟨rfl, fun w' hS => ?_⟩) hb5 ?_; rotate_left; (have d0 := cell_below hq hS; have d1 := (H2.out.below hS).rd.1; go_simp <;> with_reducible rfl)) | (refine anyH_free (i := 45) (v := undef) rfl (by kernel_rfl) (fun _ _ _ h => h) (Or.inr ⟨rfl, rfl⟩) hb5 ?_)); (simp only [Act.put, List.setIfInBounds_toArray, List.set_cons_zero, List.set_cons_succ])); ((first | (refine anyH_free (i := 46) (v := ?_) rfl (by kernel_rfl) (fun _ _ _ h => h) (Or.inl ⟨rfl, fun w' hS => ?_⟩) hb5 ?_; rotate_left; (have d0 := cell_below hq hS; have d1 := (H2.out.below hS).rd.1; go_simp <;> with_reducible rfl)) | (refine anyH_free (i := 46) (v := undef) rfl (by kernel_rfl) (fun _ _ _ h => h) (Or.inr ⟨rfl, rfl⟩) hb5 ?_)); (simp only [Act.put, List.setIfInBounds_toArray, List.set_cons_zero, List.set_cons_succ]))
      refine anyH_sole (i := 47) rfl (by kernel_rfl) rfl (fun K hK => ?_)
      go_simp
      refine (all_no (HQ.out.below hb5)).mono ?_
      rintro e w6 ⟨rfl, rfl⟩
      refine hK _ _ hb5 ?_
      clear hK K
      ((first | (refine anyH_free (i := 48) (v := ?_) rfl (by kernel_rfl) (fun _ _ _ h => h) (Or.inl ⟨rfl, fun w' hS => ?_⟩) hb5 ?_; rotate_left; (skip; go_simp <;> with_reducible rfl)) | (refine anyH_free (i := 48) (v := undef) rfl (by kernel_rfl) (fun _ _ _ h => h) (Or.inr ⟨rfl, rfl⟩) hb5 ?_)); (simp only [Act.put, List.setIfInBounds_toArray, List.set_cons_zero, List.set_cons_succ])); ((first | (refine anyH_free (i := 49) (v := ?_) rfl (by kernel_rfl) (fun _ _ _ h => h) (Or.inl ⟨rfl, fun w' hS => ?_⟩) hb5 ?_; rotate_left; (skip; go_simp <;> with_reducible rfl)) | (refine anyH_free (i := 49) (v := undef) rfl (by kernel_rfl) (fun _ _ _ h => h) (Or.inr ⟨rfl, rfl⟩) hb5 ?_)); (simp only [Act.put, List.setIfInBounds_toArray, List.set_cons_zero, List.set_cons_succ])); ((first | (refine anyH_free (i := 50) (v := ?_) rfl (by kernel_rfl) (fun _ _ _ h => h) (Or.inl ⟨rfl, fun w' hS => ?_⟩) hb5 ?_; rotate_left; (skip; go_simp <;> with_reducible rfl)) | (refine anyH_free (i := 50) (v := undef) rfl (by kernel_rfl) (fun _ _ _ h => h) (Or.inr ⟨rfl, rfl⟩) hb5 ?_)); (simp only [Act.put, List.setIfInBounds_toArray, List.set_cons_zero, List.set_cons_succ]))
      refine anyH_done (by kernel_rfl) ?_
      have H1' := Lib.hid (below_then H1.out (hb5.mono (Nat.le_refl _)))
      have H2' := Lib.hid (H2.out.below hb5)
      have H3' := Lib.hid (H3.out.below hb5)
      have H4' := Lib.hid (H4.out.below hb5)
      clear hb5 hb0 hq
      go_wp2_with fail
      exact ⟨⟨k + 1, by simp, by omega, H1'.out, H2'.out, H3'.out, H4'.out⟩, by simp [intOf]; omega⟩
    · obtain rfl : k = 2 := by omega
      clear h1 h2 h3 h4
      go_wp2_with fail
      refine (awake_any _).mono ?_
      rintro e w2 ⟨rfl, hb⟩
      have HN1 := Lib.hid (H1.out.trans (hb.mono H1.out.size))
      clear hb
      go_wp2_with fail
      go_ret
      exact ⟨rfl, HN1.out⟩
end Go.Proofs.Ytfaafndaelmbfaa
