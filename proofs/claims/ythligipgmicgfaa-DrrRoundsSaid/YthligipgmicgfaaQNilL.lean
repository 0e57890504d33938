/- QueueNil's walk -/
import Derived.Test.YthligipgmicgfaaQAwk
import Derived.Test.YthligipgmicgfaaQOpe
namespace Go.Proofs.Ythligipgmicgfaa
open Go.RowKit
attribute [local go_sem] Oper.semAt_some

theorem qno_first {q : Value} {w : World} (h : QNo w q) : Calls Try.prog 22 #[q] w (FirstTo none w) := first_none (len_no (h.below ((Below.refl _ w).alloc (Nat.le_refl _) _)))
theorem qno_pop {q : Value} {w : World} (h : QNo w q) : Calls Try.prog 14 #[q] w (FirstTo none w) := pop_none (qno_first (h.below ((Below.refl _ w).alloc (Nat.le_refl _) _)))
set_option maxRecDepth 100000 in
theorem cost_no {q : Value} {w : World} (h : QNo w q) : Calls Try.prog 23 #[q] w (Is (.int .i64 0) w) := by
  have HA := Lib.hid (all_no h)
  clear h
  go_enter Try.func23, Try.ntmps23
  go_wp2_with fail
  refine HA.out.mono ?_
  rintro e w1 ⟨rfl, rfl⟩
  go_wp2
  go_loop [3, 9] (fun o i => o = .int .i64 0 ∧ i = .int .i64 0) (fun _ _ => 0)
  · exact ⟨rfl, rfl⟩
  obtain ⟨rfl, rfl⟩ := hrel
  go_wp2
  go_ret
  exact ⟨rfl, rfl⟩
theorem qno_cell {W : World} {q : Value} (h : QNo W q) : ∃ o, q = .pointer o := by
  rcases h with rfl | ⟨p, rfl, _⟩
  · exact ⟨_, rfl⟩
  · exact ⟨_, rfl⟩
abbrev z0 : It := ⟨[], 0, 0, 0⟩
structure NL (w : World) (lv : Value) (x : It) (bl : Nat) (W : World) : Prop where
  bx : Box W w.heap.size #[lv, .int .i64 x.at_, .int .i64 x.vl, .int .i64 x.cost] 32
  l : ∀ k : Nat, k < 2 → ∃ o, W.cell? ⟨bl, k, none⟩ = some (.pointer o) ∧ QNo W (.pointer o)
  lb : Lb (fun _ => True) W lv x.ls
  b : Below w.heap.size w W
  lt : bl < W.heap.size
theorem NL.below {w W W' : World} {lv : Value} {x : It} {bl : Nat} (h : NL w lv x bl W) (hb : Below W.heap.size W W') : NL w lv x bl W' :=
  ⟨h.bx.below hb, fun k hk => by
    obtain ⟨o, h1, h2⟩ := h.l k hk
    exact ⟨o, cell_below h1 hb, h2.below hb⟩, h.lb.below hb, below_then h.b hb, Nat.lt_of_lt_of_le h.lt hb.size⟩
set_option maxRecDepth 100000 in
set_option maxHeartbeats 8000000 in
theorem nil_walk {lv : Value} {x : It} {w : World} (h : Sl (fun _ => True) w lv 2 encL x.ls) (hn : x.ls.length ≤ 1000) : Calls Try.prog 5 #[iv lv x] w (Tells (.bool true) w) := by
  obtain ⟨p1, c1, rfl, _, _⟩ := h.len
  have hni : (x.ls.length : Int) ≤ 1000 := by omega
  have HL : Hid (Lb (fun _ => True) w (.slice p1 x.ls.length c1) x.ls) := Lib.hid ⟨h, by omega⟩
  clear h
  go_enter Try.func5, Try.ntmps5
  go_wp2_with fail
  obtain ⟨W, hW⟩ : ∃ W, ((w.alloc (.cells #[.slice p1 x.ls.length c1, .int .i64 x.at_, .int .i64 x.vl, .int .i64 x.cost] 32)).alloc (.cells #[.slice none 0 0, .bool false] 55)).alloc (.cells #[.pointer none, .pointer (some ⟨w.heap.size + 1, 0, none⟩)] 24) = W := ⟨_, rfl⟩
  have N0 : Hid (NL w (.slice p1 x.ls.length c1) x (w.heap.size + 1 + 1) W) := Lib.hid (by
    have hb : Below w.heap.size w W := by rw [← hW]; exact (((Below.refl _ w).alloc (Nat.le_refl _) _).alloc (by simp) _).alloc (by simp; omega) _
    have e2 := Box.new ((w.alloc (.cells #[.slice p1 x.ls.length c1, .int .i64 x.at_, .int .i64 x.vl, .int .i64 x.cost] 32)).alloc (.cells #[.slice none 0 0, .bool false] 55)) #[.pointer none, .pointer (some ⟨w.heap.size + 1, 0, none⟩)] 24
    have e1 := (Box.new (w.alloc (.cells #[.slice p1 x.ls.length c1, .int .i64 x.at_, .int .i64 x.vl, .int .i64 x.cost] 32)) #[.slice none 0 0, .bool false] 55).alloc (.cells #[.pointer none, .pointer (some ⟨w.heap.size + 1, 0, none⟩)] 24)
    rw [World.size_alloc, World.size_alloc] at e2
    rw [World.size_alloc] at e1
    have e0 := ((Box.new w #[.slice p1 x.ls.length c1, .int .i64 x.at_, .int .i64 x.vl, .int .i64 x.cost] 32).alloc (.cells #[.slice none 0 0, .bool false] 55)).alloc (.cells #[.pointer none, .pointer (some ⟨w.heap.size + 1, 0, none⟩)] 24)
    rw [hW] at e0 e1 e2
    refine ⟨e0, fun k hk => ?_, HL.out.below hb, hb, e2.lt⟩
    match k, hk with
    | 0, _ => exact ⟨_, e2.rd.1 0, .inl rfl⟩
    | 1, _ => exact ⟨_, e2.rd.1 1, .inr ⟨_, rfl, e1⟩⟩)
  rw [hW]
  clear hW
  go_loopw [5] (fun i wr => ∃ k : Nat, i = .int .i64 k ∧ k ≤ 2 ∧ NL w (.slice p1 x.ls.length c1) x (w.heap.size + 1 + 1) wr) (fun i _ => 2 - (intOf i).toNat)
  · exact ⟨0, rfl, by omega, N0.out⟩
  obtain ⟨k, rfl, hk, hN⟩ := hrel
  have HN := Lib.hid hN
  clear hN N0 HL
  by_cases hlt : k < 2
  · have hkk : (k : Int) < 2 := by omega
    have hk0 : (0 : Int) ≤ k := by omega
    obtain ⟨o, c0, hq⟩ := HN.out.l k hlt
    have HQ := Lib.hid hq
    clear hq
    go_wp2_with fail
    refine (qno_pop HQ.out).mono ?_
    rintro e w1 ⟨rfl, hb⟩
    have HB1 := Lib.hid hb
    have HN1 := Lib.hid (HN.out.below hb)
    have c1 := cell_below c0 hb
    clear c0 hb
    have hl1 := HN1.out.lt
    have hW1 : w.heap.size < w1.heap.size := HN1.out.bx.lt
    go_wp2_with fail
    have hba : Below w1.heap.size w1 (w1.alloc (.cells z4 32)) := (Below.refl _ w1).alloc (Nat.le_refl _) _
    have hbb := below_then HB1.out hba
    refine (qno_first (HQ.out.below hbb)).mono ?_
    rintro e w2 ⟨rfl, hb⟩
    have bx := Lib.hid ((Box.new w1 z4 32).below hb)
    have HN2 := Lib.hid ((HN1.out.below hba).below hb)
    have HQ2 := Lib.hid ((HQ.out.below hbb).below hb)
    have c2 := cell_below (cell_below c1 hba) hb
    have hl2 := HN2.out.lt
    clear c1 hb hba hbb HB1 HN1 HQ
    go_wp2_with fail
    have hba : Below w2.heap.size w2 (w2.alloc (.cells z4 32)) := (Below.refl _ w2).alloc (Nat.le_refl _) _
    have by_ := Lib.hid (Box.new w2 z4 32)
    have bx2 := Lib.hid (bx.out.below hba)
    have HN3 := Lib.hid (HN2.out.below hba)
    have HQ3 := Lib.hid (HQ2.out.below hba)
    have c3 := cell_below c2 hba
    clear c2 hba HN2 HQ2 bx
    obtain ⟨w3, hw3⟩ : ∃ w3, w2.alloc (.cells z4 32) = w3 := ⟨_, rfl⟩
    rw [hw3] at by_ bx2 HN3 HQ3 c3 ⊢
    clear hw3
    refine anyH_start 52 (fun w' => Below w3.heap.size w3 w') (by kernel_rfl) rfl ?_
    have hb0 : Below w3.heap.size w3 w3.drew := (Below.refl _ w3).drew
    ((first | (refine anyH_free (i := 0) (v := ?_) rfl (by kernel_rfl) (fun _ _ _ h => h) (Or.inl ⟨rfl, fun w' hS => ?_⟩) hb0 ?_; rotate_left; (have d0 := cell_below c3 hS; have d1 := (HN3.out.bx.below hS).rd.1; go_simp <;> with_reducible rfl)) | (refine anyH_free (i := 0) (v := undef) rfl (by kernel_rfl) (fun _ _ _ h => h) (Or.inr ⟨rfl, rfl⟩) hb0 ?_)); (simp only [Act.put, List.setIfInBounds_toArray, List.set_cons_zero, List.set_cons_succ])); ((first | (refine anyH_free (i := 1) (v := ?_) rfl (by kernel_rfl) (fun _ _ _ h => h) (Or.inl ⟨rfl, fun w' hS => ?_⟩) hb0 ?_; rotate_left; (have d0 := cell_below c3 hS; have d1 := (HN3.out.bx.below hS).rd.1; go_simp <;> with_reducible rfl)) | (refine anyH_free (i := 1) (v := undef) rfl (by kernel_rfl) (fun _ _ _ h => h) (Or.inr ⟨rfl, rfl⟩) hb0 ?_)); (simp only [Act.put, List.setIfInBounds_toArray, List.set_cons_zero, List.set_cons_succ])); ((first | (refine anyH_free (i := 2) (v := ?_) rfl (by kernel_rfl) (fun _ _ _ h => h) (Or.inl ⟨rfl, fun w' hS => ?_⟩) hb0 ?_; rotate_left; (have d0 := cell_below c3 hS; have d1 := (HN3.out.bx.below hS).rd.1; go_simp <;> with_reducible rfl)) | (refine anyH_free (i := 2) (v := undef) rfl (by kernel_rfl) (fun _ _ _ h => h) (Or.inr ⟨rfl, rfl⟩) hb0 ?_)); (simp only [Act.put, List.setIfInBounds_toArray, List.set_cons_zero, List.set_cons_succ])); ((first | (refine anyH_free (i := 3) (v := ?_) rfl (by kernel_rfl) (fun _ _ _ h => h) (Or.inl ⟨rfl, fun w' hS => ?_⟩) hb0 ?_; rotate_left; (have d0 := cell_below c3 hS; have d1 := (HN3.out.bx.below hS).rd.1; go_simp <;> with_reducible rfl)) | (refine anyH_free (i := 3) (v := undef) rfl (by kernel_rfl) (fun _ _ _ h => h) (Or.inr ⟨rfl, rfl⟩) hb0 ?_)); (simp only [Act.put, List.setIfInBounds_toArray, List.set_cons_zero, List.set_cons_succ])); ((first | (refine anyH_free (i := 4) (v := ?_) rfl (by kernel_rfl) (fun _ _ _ h => h) (Or.inl ⟨rfl, fun w' hS => ?_⟩) hb0 ?_; rotate_left; (have d0 := cell_below c3 hS; have d1 := (HN3.out.bx.below hS).rd.1; go_simp <;> with_reducible rfl)) | (refine anyH_free (i := 4) (v := undef) rfl (by kernel_rfl) (fun _ _ _ h => h) (Or.inr ⟨rfl, rfl⟩) hb0 ?_)); (simp only [Act.put, List.setIfInBounds_toArray, List.set_cons_zero, List.set_cons_succ]))
    refine anyH_sole (i := 5) rfl (by kernel_rfl) rfl (fun K hK => ?_)
    go_simp
    refine (push_no (x := x) (HQ3.out.below hb0)).mono ?_
    rintro e w4 ⟨rfl, hb⟩
    have hb4 := below_then hb0 hb
    refine hK _ _ hb4 ?_
    clear hK K hb
    ((first | (refine anyH_free (i := 6) (v := ?_) rfl (by kernel_rfl) (fun _ _ _ h => h) (Or.inl ⟨rfl, fun w' hS => ?_⟩) hb4 ?_; rotate_left; (have d1 := (bx2.out.below hS).rd.1; go_simp <;> with_reducible rfl)) | (refine anyH_free (i := 6) (v := undef) rfl (by kernel_rfl) (fun _ _ _ h => h) (Or.inr ⟨rfl, rfl⟩) hb4 ?_)); (simp only [Act.put, List.setIfInBounds_toArray, List.set_cons_zero, List.set_cons_succ])); ((first | (refine anyH_free (i := 7) (v := ?_) rfl (by kernel_rfl) (fun _ _ _ h => h) (Or.inl ⟨rfl, fun w' hS => ?_⟩) hb4 ?_; rotate_left; (have d1 := (bx2.out.below hS).rd.1; go_simp <;> with_reducible rfl)) | (refine anyH_free (i := 7) (v := undef) rfl (by kernel_rfl) (fun _ _ _ h => h) (Or.inr ⟨rfl, rfl⟩) hb4 ?_)); (simp only [Act.put, List.setIfInBounds_toArray, List.set_cons_zero, List.set_cons_succ])); ((first | (refine anyH_free (i := 8) (v := ?_) rfl (by kernel_rfl) (fun _ _ _ h => h) (Or.inl ⟨rfl, fun w' hS => ?_⟩) hb4 ?_; rotate_left; (have d1 := (bx2.out.below hS).rd.1; go_simp <;> with_reducible rfl)) | (refine anyH_free (i := 8) (v := undef) rfl (by kernel_rfl) (fun _ _ _ h => h) (Or.inr ⟨rfl, rfl⟩) hb4 ?_)); (simp only [Act.put, List.setIfInBounds_toArray, List.set_cons_zero, List.set_cons_succ])); ((first | (refine anyH_free (i := 9) (v := ?_) rfl (by kernel_rfl) (fun _ _ _ h => h) (Or.inl ⟨rfl, fun w' hS => ?_⟩) hb4 ?_; rotate_left; (have d1 := (bx2.out.below hS).rd.1; go_simp <;> with_reducible rfl)) | (refine anyH_free (i := 9) (v := undef) rfl (by kernel_rfl) (fun _ _ _ h => h) (Or.inr ⟨rfl, rfl⟩) hb4 ?_)); (simp only [Act.put, List.setIfInBounds_toArray, List.set_cons_zero, List.set_cons_succ])); ((first | (refine anyH_free (i := 10) (v := ?_) rfl (by kernel_rfl) (fun _ _ _ h => h) (Or.inl ⟨rfl, fun w' hS => ?_⟩) hb4 ?_; rotate_left; (have d1 := (bx2.out.below hS).rd.1; go_simp <;> with_reducible rfl)) | (refine anyH_free (i := 10) (v := undef) rfl (by kernel_rfl) (fun _ _ _ h => h) (Or.inr ⟨rfl, rfl⟩) hb4 ?_)); (simp only [Act.put, List.setIfInBounds_toArray, List.set_cons_zero, List.set_cons_succ])); ((first | (refine anyH_free (i := 11) (v := ?_) rfl (by kernel_rfl) (fun _ _ _ h => h) (Or.inl ⟨rfl, fun w' hS => ?_⟩) hb4 ?_; rotate_left; (have d1 := (bx2.out.below hS).rd.1; go_simp <;> with_reducible rfl)) | (refine anyH_free (i := 11) (v := undef) rfl (by kernel_rfl) (fun _ _ _ h => h) (Or.inr ⟨rfl, rfl⟩) hb4 ?_)); (simp only [Act.put, List.setIfInBounds_toArray, List.set_cons_zero, List.set_cons_succ])); ((first | (refine anyH_free (i := 12) (v := ?_) rfl (by kernel_rfl) (fun _ _ _ h => h) (Or.inl ⟨rfl, fun w' hS => ?_⟩) hb4 ?_; rotate_left; (have d1 := (bx2.out.below hS).rd.1; go_simp <;> with_reducible rfl)) | (refine anyH_free (i := 12) (v := undef) rfl (by kernel_rfl) (fun _ _ _ h => h) (Or.inr ⟨rfl, rfl⟩) hb4 ?_)); (simp only [Act.put, List.setIfInBounds_toArray, List.set_cons_zero, List.set_cons_succ])); ((first | (refine anyH_free (i := 13) (v := ?_) rfl (by kernel_rfl) (fun _ _ _ h => h) (Or.inl ⟨rfl, fun w' hS => ?_⟩) hb4 ?_; rotate_left; (have d1 := (bx2.out.below hS).rd.1; go_simp <;> with_reducible rfl)) | (refine anyH_free (i := 13) (v := undef) rfl (by kernel_rfl) (fun _ _ _ h => h) (Or.inr ⟨rfl, rfl⟩) hb4 ?_)); (simp only [Act.put, List.setIfInBounds_toArray, List.set_cons_zero, List.set_cons_succ])); ((first | (refine anyH_free (i := 14) (v := ?_) rfl (by kernel_rfl) (fun _ _ _ h => h) (Or.inl ⟨rfl, fun w' hS => ?_⟩) hb4 ?_; rotate_left; (have d1 := (bx2.out.below hS).rd.1; go_simp <;> with_reducible rfl)) | (refine anyH_free (i := 14) (v := undef) rfl (by kernel_rfl) (fun _ _ _ h => h) (Or.inr ⟨rfl, rfl⟩) hb4 ?_)); (simp only [Act.put, List.setIfInBounds_toArray, List.set_cons_zero, List.set_cons_succ])); ((first | (refine anyH_free (i := 16) (v := ?_) rfl (by kernel_rfl) (fun _ _ _ h => h) (Or.inl ⟨rfl, fun w' hS => ?_⟩) hb4 ?_; rotate_left; (have d1 := (bx2.out.below hS).rd.1; go_simp <;> with_reducible rfl)) | (refine anyH_free (i := 16) (v := undef) rfl (by kernel_rfl) (fun _ _ _ h => h) (Or.inr ⟨rfl, rfl⟩) hb4 ?_)); (simp only [Act.put, List.setIfInBounds_toArray, List.set_cons_zero, List.set_cons_succ]))
    refine anyH_sole (i := 15) rfl (by kernel_rfl) rfl (fun K hK => ?_)
    go_simp
    refine (Twin_any (x := z0) (Lb.nil (fun _ => True) w4)).mono ?_
    rintro e w5 ⟨l5, rfl, hl5, hb⟩
    have hb5 := below_then hb4 hb
    refine hK _ _ hb5 ?_
    clear hK K hb hb4
    refine anyH_sole (i := 17) rfl (by kernel_rfl) rfl (fun K hK => ?_)
    go_simp
    refine (same_any (x := z0) hl5.lb (Lb.nil (fun _ => True) w5)).mono ?_
    rintro e w6 ⟨rfl, hb⟩
    have hb6 := below_then hb5 hb
    refine hK _ _ hb6 ?_
    clear hK K hb hb5 hl5
    ((first | (refine anyH_free (i := 18) (v := ?_) rfl (by kernel_rfl) (fun _ _ _ h => h) (Or.inl ⟨rfl, fun w' hS => ?_⟩) hb6 ?_; rotate_left; (have d1 := (by_.out.below hS).rd.1; go_simp <;> with_reducible rfl)) | (refine anyH_free (i := 18) (v := undef) rfl (by kernel_rfl) (fun _ _ _ h => h) (Or.inr ⟨rfl, rfl⟩) hb6 ?_)); (simp only [Act.put, List.setIfInBounds_toArray, List.set_cons_zero, List.set_cons_succ])); ((first | (refine anyH_free (i := 19) (v := ?_) rfl (by kernel_rfl) (fun _ _ _ h => h) (Or.inl ⟨rfl, fun w' hS => ?_⟩) hb6 ?_; rotate_left; (have d1 := (by_.out.below hS).rd.1; go_simp <;> with_reducible rfl)) | (refine anyH_free (i := 19) (v := undef) rfl (by kernel_rfl) (fun _ _ _ h => h) (Or.inr ⟨rfl, rfl⟩) hb6 ?_)); (simp only [Act.put, List.setIfInBounds_toArray, List.set_cons_zero, List.set_cons_succ])); ((first | (refine anyH_free (i := 20) (v := ?_) rfl (by kernel_rfl) (fun _ _ _ h => h) (Or.inl ⟨rfl, fun w' hS => ?_⟩) hb6 ?_; rotate_left; (have d1 := (by_.out.below hS).rd.1; go_simp <;> with_reducible rfl)) | (refine anyH_free (i := 20) (v := undef) rfl (by kernel_rfl) (fun _ _ _ h => h) (Or.inr ⟨rfl, rfl⟩) hb6 ?_)); (simp only [Act.put, List.setIfInBounds_toArray, List.set_cons_zero, List.set_cons_succ])); ((first | (refine anyH_free (i := 21) (v := ?_) rfl (by kernel_rfl) (fun _ _ _ h => h) (Or.inl ⟨rfl, fun w' hS => ?_⟩) hb6 ?_; rotate_left; (have d1 := (by_.out.below hS).rd.1; go_simp <;> with_reducible rfl)) | (refine anyH_free (i := 21) (v := undef) rfl (by kernel_rfl) (fun _ _ _ h => h) (Or.inr ⟨rfl, rfl⟩) hb6 ?_)); (simp only [Act.put, List.setIfInBounds_toArray, List.set_cons_zero, List.set_cons_succ])); ((first | (refine anyH_free (i := 23) (v := ?_) rfl (by kernel_rfl) (fun _ _ _ h => h) (Or.inl ⟨rfl, fun w' hS => ?_⟩) hb6 ?_; rotate_left; (have d1 := (by_.out.below hS).rd.1; go_simp <;> with_reducible rfl)) | (refine anyH_free (i := 23) (v := undef) rfl (by kernel_rfl) (fun _ _ _ h => h) (Or.inr ⟨rfl, rfl⟩) hb6 ?_)); (simp only [Act.put, List.setIfInBounds_toArray, List.set_cons_zero, List.set_cons_succ]))
    refine anyH_sole (i := 22) rfl (by kernel_rfl) rfl (fun K hK => ?_)
    go_simp
    refine (Twin_any (x := z0) (Lb.nil (fun _ => True) w6)).mono ?_
    rintro e w7 ⟨l7, rfl, hl7, hb⟩
    have hb7 := below_then hb6 hb
    refine hK _ _ hb7 ?_
    clear hK K hb hb6
    refine anyH_sole (i := 24) rfl (by kernel_rfl) rfl (fun K hK => ?_)
    go_simp
    refine (same_any (x := z0) hl7.lb (Lb.nil (fun _ => True) w7)).mono ?_
    rintro e w8 ⟨rfl, hb⟩
    have hb8 := below_then hb7 hb
    refine hK _ _ hb8 ?_
    clear hK K hb hb7 hl7
    ((first | (refine anyH_free (i := 25) (v := ?_) rfl (by kernel_rfl) (fun _ _ _ h => h) (Or.inl ⟨rfl, fun w' hS => ?_⟩) hb8 ?_; rotate_left; (have d0 := cell_below c3 hS; go_simp <;> with_reducible rfl)) | (refine anyH_free (i := 25) (v := undef) rfl (by kernel_rfl) (fun _ _ _ h => h) (Or.inr ⟨rfl, rfl⟩) hb8 ?_)); (simp only [Act.put, List.setIfInBounds_toArray, List.set_cons_zero, List.set_cons_succ])); ((first | (refine anyH_free (i := 26) (v := ?_) rfl (by kernel_rfl) (fun _ _ _ h => h) (Or.inl ⟨rfl, fun w' hS => ?_⟩) hb8 ?_; rotate_left; (have d0 := cell_below c3 hS; go_simp <;> with_reducible rfl)) | (refine anyH_free (i := 26) (v := undef) rfl (by kernel_rfl) (fun _ _ _ h => h) (Or.inr ⟨rfl, rfl⟩) hb8 ?_)); (simp only [Act.put, List.setIfInBounds_toArray, List.set_cons_zero, List.set_cons_succ])); ((first | (refine anyH_free (i := 27) (v := ?_) rfl (by kernel_rfl) (fun _ _ _ h => h) (Or.inl ⟨rfl, fun w' hS => ?_⟩) hb8 ?_; rotate_left; (have d0 := cell_below c3 hS; go_simp <;> with_reducible rfl)) | (refine anyH_free (i := 27) (v := undef) rfl (by kernel_rfl) (fun _ _ _ h => h) (Or.inr ⟨rfl, rfl⟩) hb8 ?_)); (simp only [Act.put, List.setIfInBounds_toArray, List.set_cons_zero, List.set_cons_succ])); ((first | (refine anyH_free (i := 28) (v := ?_) rfl (by kernel_rfl) (fun _ _ _ h => h) (Or.inl ⟨rfl, fun w' hS => ?_⟩) hb8 ?_; rotate_left; (have d0 := cell_below c3 hS; go_simp <;> with_reducible rfl)) | (refine anyH_free (i := 28) (v := undef) rfl (by kernel_rfl) (fun _ _ _ h => h) (Or.inr ⟨rfl, rfl⟩) hb8 ?_)); (simp only [Act.put, List.setIfInBounds_toArray, List.set_cons_zero, List.set_cons_succ])); ((first | (refine anyH_free (i := 29) (v := ?_) rfl (by kernel_rfl) (fun _ _ _ h => h) (Or.inl ⟨rfl, fun w' hS => ?_⟩) hb8 ?_; rotate_left; (have d0 := cell_below c3 hS; go_simp <;> with_reducible rfl)) | (refine anyH_free (i := 29) (v := undef) rfl (by kernel_rfl) (fun _ _ _ h => h) (Or.inr ⟨rfl, rfl⟩) hb8 ?_)); (simp only [Act.put, List.setIfInBounds_toArray, List.set_cons_zero, List.set_cons_succ])); ((first | (refine anyH_free (i := 30) (v := ?_) rfl (by kernel_rfl) (fun _ _ _ h => h) (Or.inl ⟨rfl, fun w' hS => ?_⟩) hb8 ?_; rotate_left; (have d0 := cell_below c3 hS; go_simp <;> with_reducible rfl)) | (refine anyH_free (i := 30) (v := undef) rfl (by kernel_rfl) (fun _ _ _ h => h) (Or.inr ⟨rfl, rfl⟩) hb8 ?_)); (simp only [Act.put, List.setIfInBounds_toArray, List.set_cons_zero, List.set_cons_succ])); ((first | (refine anyH_free (i := 31) (v := ?_) rfl (by kernel_rfl) (fun _ _ _ h => h) (Or.inl ⟨rfl, fun w' hS => ?_⟩) hb8 ?_; rotate_left; (have d0 := cell_below c3 hS; go_simp <;> with_reducible rfl)) | (refine anyH_free (i := 31) (v := undef) rfl (by kernel_rfl) (fun _ _ _ h => h) (Or.inr ⟨rfl, rfl⟩) hb8 ?_)); (simp only [Act.put, List.setIfInBounds_toArray, List.set_cons_zero, List.set_cons_succ]))
    refine anyH_sole (i := 32) rfl (by kernel_rfl) rfl (fun K hK => ?_)
    go_simp
    refine (len_no (HQ3.out.below hb8)).mono ?_
    rintro e w9 ⟨rfl, rfl⟩
    refine hK _ _ hb8 ?_
    clear hK K
    ((first | (refine anyH_free (i := 33) (v := ?_) rfl (by kernel_rfl) (fun _ _ _ h => h) (Or.inl ⟨rfl, fun w' hS => ?_⟩) hb8 ?_; rotate_left; (have d0 := cell_below c3 hS; go_simp <;> with_reducible rfl)) | (refine anyH_free (i := 33) (v := undef) rfl (by kernel_rfl) (fun _ _ _ h => h) (Or.inr ⟨rfl, rfl⟩) hb8 ?_)); (simp only [Act.put, List.setIfInBounds_toArray, List.set_cons_zero, List.set_cons_succ])); ((first | (refine anyH_free (i := 34) (v := ?_) rfl (by kernel_rfl) (fun _ _ _ h => h) (Or.inl ⟨rfl, fun w' hS => ?_⟩) hb8 ?_; rotate_left; (have d0 := cell_below c3 hS; go_simp <;> with_reducible rfl)) | (refine anyH_free (i := 34) (v := undef) rfl (by kernel_rfl) (fun _ _ _ h => h) (Or.inr ⟨rfl, rfl⟩) hb8 ?_)); (simp only [Act.put, List.setIfInBounds_toArray, List.set_cons_zero, List.set_cons_succ])); ((first | (refine anyH_free (i := 35) (v := ?_) rfl (by kernel_rfl) (fun _ _ _ h => h) (Or.inl ⟨rfl, fun w' hS => ?_⟩) hb8 ?_; rotate_left; (have d0 := cell_below c3 hS; go_simp <;> with_reducible rfl)) | (refine anyH_free (i := 35) (v := undef) rfl (by kernel_rfl) (fun _ _ _ h => h) (Or.inr ⟨rfl, rfl⟩) hb8 ?_)); (simp only [Act.put, List.setIfInBounds_toArray, List.set_cons_zero, List.set_cons_succ])); ((first | (refine anyH_free (i := 36) (v := ?_) rfl (by kernel_rfl) (fun _ _ _ h => h) (Or.inl ⟨rfl, fun w' hS => ?_⟩) hb8 ?_; rotate_left; (have d0 := cell_below c3 hS; go_simp <;> with_reducible rfl)) | (refine anyH_free (i := 36) (v := undef) rfl (by kernel_rfl) (fun _ _ _ h => h) (Or.inr ⟨rfl, rfl⟩) hb8 ?_)); (simp only [Act.put, List.setIfInBounds_toArray, List.set_cons_zero, List.set_cons_succ])); ((first | (refine anyH_free (i := 37) (v := ?_) rfl (by kernel_rfl) (fun _ _ _ h => h) (Or.inl ⟨rfl, fun w' hS => ?_⟩) hb8 ?_; rotate_left; (have d0 := cell_below c3 hS; go_simp <;> with_reducible rfl)) | (refine anyH_free (i := 37) (v := undef) rfl (by kernel_rfl) (fun _ _ _ h => h) (Or.inr ⟨rfl, rfl⟩) hb8 ?_)); (simp only [Act.put, List.setIfInBounds_toArray, List.set_cons_zero, List.set_cons_succ])); ((first | (refine anyH_free (i := 38) (v := ?_) rfl (by kernel_rfl) (fun _ _ _ h => h) (Or.inl ⟨rfl, fun w' hS => ?_⟩) hb8 ?_; rotate_left; (have d0 := cell_below c3 hS; go_simp <;> with_reducible rfl)) | (refine anyH_free (i := 38) (v := undef) rfl (by kernel_rfl) (fun _ _ _ h => h) (Or.inr ⟨rfl, rfl⟩) hb8 ?_)); (simp only [Act.put, List.setIfInBounds_toArray, List.set_cons_zero, List.set_cons_succ])); ((first | (refine anyH_free (i := 39) (v := ?_) rfl (by kernel_rfl) (fun _ _ _ h => h) (Or.inl ⟨rfl, fun w' hS => ?_⟩) hb8 ?_; rotate_left; (have d0 := cell_below c3 hS; go_simp <;> with_reducible rfl)) | (refine anyH_free (i := 39) (v := undef) rfl (by kernel_rfl) (fun _ _ _ h => h) (Or.inr ⟨rfl, rfl⟩) hb8 ?_)); (simp only [Act.put, List.setIfInBounds_toArray, List.set_cons_zero, List.set_cons_succ]))
    refine anyH_sole (i := 40) rfl (by kernel_rfl) rfl (fun K hK => ?_)
    go_simp
    refine (cost_no (HQ3.out.below hb8)).mono ?_
    rintro e w9 ⟨rfl, rfl⟩
    refine hK _ _ hb8 ?_
    clear hK K
    ((first | (refine anyH_free (i := 41) (v := ?_) rfl (by kernel_rfl) (fun _ _ _ h => h) (Or.inl ⟨rfl, fun w' hS => ?_⟩) hb8 ?_; rotate_left; (have d0 := cell_below c3 hS; go_simp <;> with_reducible rfl)) | (refine anyH_free (i := 41) (v := undef) rfl (by kernel_rfl) (fun _ _ _ h => h) (Or.inr ⟨rfl, rfl⟩) hb8 ?_)); (simp only [Act.put, List.setIfInBounds_toArray, List.set_cons_zero, List.set_cons_succ])); ((first | (refine anyH_free (i := 42) (v := ?_) rfl (by kernel_rfl) (fun _ _ _ h => h) (Or.inl ⟨rfl, fun w' hS => ?_⟩) hb8 ?_; rotate_left; (have d0 := cell_below c3 hS; go_simp <;> with_reducible rfl)) | (refine anyH_free (i := 42) (v := undef) rfl (by kernel_rfl) (fun _ _ _ h => h) (Or.inr ⟨rfl, rfl⟩) hb8 ?_)); (simp only [Act.put, List.setIfInBounds_toArray, List.set_cons_zero, List.set_cons_succ])); ((first | (refine anyH_free (i := 43) (v := ?_) rfl (by kernel_rfl) (fun _ _ _ h => h) (Or.inl ⟨rfl, fun w' hS => ?_⟩) hb8 ?_; rotate_left; (have d0 := cell_below c3 hS; go_simp <;> with_reducible rfl)) | (refine anyH_free (i := 43) (v := undef) rfl (by kernel_rfl) (fun _ _ _ h => h) (Or.inr ⟨rfl, rfl⟩) hb8 ?_)); (simp only [Act.put, List.setIfInBounds_toArray, List.set_cons_zero, List.set_cons_succ])); ((first | (refine anyH_free (i := 44) (v := ?_) rfl (by kernel_rfl) (fun _ _ _ h => h) (Or.inl ⟨rfl, fun w' hS => ?_⟩) hb8 ?_; rotate_left; (have d0 := cell_below c3 hS; go_simp <;> with_reducible rfl)) | (refine anyH_free (i := 44) (v := undef) rfl (by kernel_rfl) (fun _ _ _ h => h) (Or.inr ⟨rfl, rfl⟩) hb8 ?_)); (simp only [Act.put, List.setIfInBounds_toArray, List.set_cons_zero, List.set_cons_succ])); ((first | (refine anyH_free (i := 45) (v := ?_) rfl (by kernel_rfl) (fun _ _ _ h => h) (Or.inl ⟨rfl, fun w' hS => ?_⟩) hb8 ?_; rotate_left; (have d0 := cell_below c3 hS; go_simp <;> with_reducible rfl)) | (refine anyH_free (i := 45) (v := undef) rfl (by kernel_rfl) (fun _ _ _ h => h) (Or.inr ⟨rfl, rfl⟩) hb8 ?_)); (simp only [Act.put, List.setIfInBounds_toArray, List.set_cons_zero, List.set_cons_succ])); ((first | (refine anyH_free (i := 46) (v := ?_) rfl (by kernel_rfl) (fun _ _ _ h => h) (Or.inl ⟨rfl, fun w' hS => ?_⟩) hb8 ?_; rotate_left; (have d0 := cell_below c3 hS; go_simp <;> with_reducible rfl)) | (refine anyH_free (i := 46) (v := undef) rfl (by kernel_rfl) (fun _ _ _ h => h) (Or.inr ⟨rfl, rfl⟩) hb8 ?_)); (simp only [Act.put, List.setIfInBounds_toArray, List.set_cons_zero, List.set_cons_succ])); ((first | (refine anyH_free (i := 47) (v := ?_) rfl (by kernel_rfl) (fun _ _ _ h => h) (Or.inl ⟨rfl, fun w' hS => ?_⟩) hb8 ?_; rotate_left; (have d0 := cell_below c3 hS; go_simp <;> with_reducible rfl)) | (refine anyH_free (i := 47) (v := undef) rfl (by kernel_rfl) (fun _ _ _ h => h) (Or.inr ⟨rfl, rfl⟩) hb8 ?_)); (simp only [Act.put, List.setIfInBounds_toArray, List.set_cons_zero, List.set_cons_succ]))
    refine anyH_sole (i := 48) rfl (by kernel_rfl) rfl (fun K hK => ?_)
    go_simp
    refine (all_no (HQ3.out.below hb8)).mono ?_
    rintro e w9 ⟨rfl, rfl⟩
    refine hK _ _ hb8 ?_
    clear hK K
    ((first | (refine anyH_free (i := 49) (v := ?_) rfl (by kernel_rfl) (fun _ _ _ h => h) (Or.inl ⟨rfl, fun w' hS => ?_⟩) hb8 ?_; rotate_left; (skip; go_simp <;> with_reducible rfl)) | (refine anyH_free (i := 49) (v := undef) rfl (by kernel_rfl) (fun _ _ _ h => h) (Or.inr ⟨rfl, rfl⟩) hb8 ?_)); (simp only [Act.put, List.setIfInBounds_toArray, List.set_cons_zero, List.set_cons_succ])); ((first | (refine anyH_free (i := 50) (v := ?_) rfl (by kernel_rfl) (fun _ _ _ h => h) (Or.inl ⟨rfl, fun w' hS => ?_⟩) hb8 ?_; rotate_left; (skip; go_simp <;> with_reducible rfl)) | (refine anyH_free (i := 50) (v := undef) rfl (by kernel_rfl) (fun _ _ _ h => h) (Or.inr ⟨rfl, rfl⟩) hb8 ?_)); (simp only [Act.put, List.setIfInBounds_toArray, List.set_cons_zero, List.set_cons_succ])); ((first | (refine anyH_free (i := 51) (v := ?_) rfl (by kernel_rfl) (fun _ _ _ h => h) (Or.inl ⟨rfl, fun w' hS => ?_⟩) hb8 ?_; rotate_left; (skip; go_simp <;> with_reducible rfl)) | (refine anyH_free (i := 51) (v := undef) rfl (by kernel_rfl) (fun _ _ _ h => h) (Or.inr ⟨rfl, rfl⟩) hb8 ?_)); (simp only [Act.put, List.setIfInBounds_toArray, List.set_cons_zero, List.set_cons_succ]))
    refine anyH_done (by kernel_rfl) ?_
    have HN9 := Lib.hid (HN3.out.below hb8)
    clear hb8 hb0 c3
    go_wp2_with fail
    exact ⟨⟨k + 1, by simp, by omega, HN9.out⟩, by simp [intOf]; omega⟩
  · obtain rfl : k = 2 := by omega
    go_wp2_with fail
    refine (awake20_any _).mono ?_
    rintro e w1 ⟨rfl, hb⟩
    have HN1 := Lib.hid (HN.out.below hb)
    clear hb
    go_wp2_with fail
    go_ret
    exact ⟨rfl, HN1.out.b⟩
set_option maxRecDepth 100000 in
theorem nil_big {lv : Value} {x : It} {w : World} (h : Sl (fun _ => True) w lv 2 encL x.ls) (hn : 1000 < x.ls.length) : Calls Try.prog 5 #[iv lv x] w (Tells (.bool true) w) := by
  obtain ⟨p1, c1, rfl, _, _⟩ := h.len
  have hni : (1000 : Int) < x.ls.length := by omega
  clear h
  go_enter Try.func5, Try.ntmps5
  go_wp2_with fail
  go_ret
  exact ⟨rfl, (Below.refl _ w).alloc (Nat.le_refl _) _⟩
theorem nil_any {r : Value × It} {w : World} (h : LabO w r) : Calls Try.prog 5 #[.agg (encI r).toArray] w (Tells (.bool true) w) := by
  by_cases hn : r.2.ls.length ≤ 1000
  · exact nil_walk (x := r.2) h.1 hn
  · exact nil_big (x := r.2) h.1 (by omega)
end Go.Proofs.Ythligipgmicgfaa
