/- (*Box).Add -/
import Derived.Test.YtfaafndaelmbfaaOTak
namespace Go.Proofs.Ytfaafndaelmbfaa
open Go.RowKit
attribute [local go_sem] Oper.semAt_some

/-- is one of a rule and an instant owed? -/
def hasM (xs : List Ox) (m : Ms) : Bool := xs.any (isM m.rule m.at_)
def addE (xs : List Ox) (m : Ms) (at_ : Int) : Int := if minB at_ && !hasM xs m then (if xs.length < 6 then 0 else 240) else 2
def addL (xs : List Ox) (m : Ms) (at_ : Int) : List Ox := if minB at_ && !hasM xs m && decide (xs.length < 6) then xs ++ [⟨m, 0, at_⟩] else xs
theorem Mo.open {S : Nat → Prop} {W : World} {r : Mr} (h : Mo S W r) : ∃ p1 c1 p2 c2, r = ⟨.slice p1 r.m.ks.length c1, .slice p2 r.m.ss.length c2, r.m⟩ := by
  obtain ⟨p1, c1, h1, -, -⟩ := h.k.len
  obtain ⟨p2, c2, h2, -, -⟩ := h.s.len
  exact ⟨p1, c1, p2, c2, by rw [← h1, ← h2]⟩
theorem found_has {xs : List Ox} {m : Ms} {z : Int} (h : Found xs (isM m.rule m.at_) z) : (0 ≤ z ∧ hasM xs m = true) ∨ (z = -1 ∧ hasM xs m = false) := by
  rcases h with ⟨rfl, h⟩ | ⟨k, x, rfl, hx, hp, _⟩
  · right
    refine ⟨rfl, ?_⟩
    unfold hasM
    rw [List.any_eq_false]
    intro x hx
    rw [h x hx]
    simp
  · left
    refine ⟨by omega, ?_⟩
    unfold hasM
    exact List.any_eq_true.2 ⟨x, List.mem_of_getElem? hx, hp⟩
def AddTo (S : Nat → Prop) (p : Nat) (xs : List Ox) (m : Ms) (at_ : Int) (w : World) (e : Ending) (w' : World) : Prop := e = .returned (.int .i64 (addE xs m at_)) ∧ BxAt S p w' (addL xs m at_) ∧ Kept (fun b => b = p ∨ S b) w w'
set_option maxRecDepth 100000 in
set_option maxHeartbeats 1000000 in
theorem add_no {q : Value} {r : Mr} {at_ : Int} {w : World} (h : BNo w q) : Calls Try.prog 9 #[q, mv r, .int .i64 at_] w (Tells (.int .i64 1) w) := by
  have hb0 : Below w.heap.size w (w.alloc (.cells (mc r) 31)) := (Below.refl _ w).alloc (Nat.le_refl _) _
  have HN := Lib.hid (none_no (h.below hb0))
  have HB := Lib.hid hb0
  clear h hb0
  go_enter Try.func9, Try.ntmps9
  go_wp2_with fail
  refine HN.out.mono ?_
  rintro e w1 ⟨rfl, rfl⟩
  go_wp2_with fail
  go_ret
  exact ⟨rfl, HB.out⟩
set_option maxRecDepth 100000 in
set_option maxHeartbeats 2000000 in
theorem add_arg {S : Nat → Prop} {p : Nat} {xs : List Ox} {r : Mr} {at_ : Int} {w : World} (h : BxAt S p w xs) (hmin : minB at_ = false) : Calls Try.prog 9 #[bv p, mv r, .int .i64 at_] w (AddTo S p xs r.m at_ w) := by
  have hb0 : Below w.heap.size w (w.alloc (.cells (mc r) 31)) := (Below.refl _ w).alloc (Nat.le_refl _) _
  have HN := Lib.hid (none_any (h.below hb0))
  have HE : Hid (∀ w', Below w.heap.size w w' → AddTo S p xs r.m at_ w (.returned (.int .i64 2)) w') := Lib.hid fun w' hb => ⟨by unfold addE; simp [hmin], by unfold addL; simp [hmin]; exact h.below hb, kept_of_below hb⟩
  have HMI := Lib.hid hmin
  have HB := Lib.hid hb0
  obtain ⟨W, hW⟩ : ∃ W, (w.alloc (.cells (mc r) 31)) = W := ⟨_, rfl⟩
  rw [hW] at HN HB
  have HW := Lib.hid hW
  clear h hb0 hmin hW
  go_enter Try.func9, Try.ntmps9
  go_wp2_with fail
  rw [HW.out]
  refine HN.out.mono ?_
  rintro e w1 ⟨rfl, rfl⟩
  clear HN HW
  go_wp2_with fail
  refine anyH_start 16 (fun w' => Below W.heap.size W w') (by kernel_rfl) rfl ?_
  have hb0 : Below W.heap.size W W.drew := (Below.refl _ W).drew
  ((first | (refine anyH_free (i := 0) (v := ?_) rfl (by kernel_rfl) (fun _ _ _ h => h) (Or.inl ⟨rfl, fun w' hS => ?_⟩) hb0 ?_; rotate_left; (skip; go_simp <;> with_reducible rfl)) | (refine anyH_free (i := 0) (v := undef) rfl (by kernel_rfl) (fun _ _ _ h => h) (Or.inr ⟨rfl, rfl⟩) hb0 ?_)); (simp only [Act.put, List.setIfInBounds_toArray, List.set_cons_zero, List.set_cons_succ]))
  refine anyH_sole (i := 1) rfl (by kernel_rfl) rfl (fun K hK => ?_)
  go_simp
  refine (minute_any at_ _).mono ?_
  rw [HMI.out]
  rintro e w2 ⟨rfl, rfl⟩
  refine hK _ _ hb0 ?_
  clear hK K
  ((first | (refine anyH_free (i := 2) (v := ?_) rfl (by kernel_rfl) (fun _ _ _ h => h) (Or.inl ⟨rfl, fun w' hS => ?_⟩) hb0 ?_; rotate_left; (skip; go_simp <;> with_reducible rfl)) | (refine anyH_free (i := 2) (v := undef) rfl (by kernel_rfl) (fun _ _ _ h => h) (Or.inr ⟨rfl, rfl⟩) hb0 ?_)); (simp only [Act.put, List.setIfInBounds_toArray, List.set_cons_zero, List.set_cons_succ])); ((first | (refine anyH_free (i := 3) (v := ?_) rfl (by kernel_rfl) (fun _ _ _ h => h) (Or.inl ⟨rfl, fun w' hS => ?_⟩) hb0 ?_; rotate_left; (skip; go_simp <;> with_reducible rfl)) | (refine anyH_free (i := 3) (v := undef) rfl (by kernel_rfl) (fun _ _ _ h => h) (Or.inr ⟨rfl, rfl⟩) hb0 ?_)); (simp only [Act.put, List.setIfInBounds_toArray, List.set_cons_zero, List.set_cons_succ])); ((first | (refine anyH_free (i := 4) (v := ?_) rfl (by kernel_rfl) (fun _ _ _ h => h) (Or.inl ⟨rfl, fun w' hS => ?_⟩) hb0 ?_; rotate_left; (skip; go_simp <;> with_reducible rfl)) | (refine anyH_free (i := 4) (v := undef) rfl (by kernel_rfl) (fun _ _ _ h => h) (Or.inr ⟨rfl, rfl⟩) hb0 ?_)); (simp only [Act.put, List.setIfInBounds_toArray, List.set_cons_zero, List.set_cons_succ])); ((first | (refine anyH_free (i := 5) (v := ?_) rfl (by kernel_rfl) (fun _ _ _ h => h) (Or.inl ⟨rfl, fun w' hS => ?_⟩) hb0 ?_; rotate_left; (skip; go_simp <;> with_reducible rfl)) | (refine anyH_free (i := 5) (v := undef) rfl (by kernel_rfl) (fun _ _ _ h => h) (Or.inr ⟨rfl, rfl⟩) hb0 ?_)); (simp only [Act.put, List.setIfInBounds_toArray, List.set_cons_zero, List.set_cons_succ])); ((first | (refine anyH_free (i := 6) (v := ?_) rfl (by kernel_rfl) (fun _ _ _ h => h) (Or.inl ⟨rfl, fun w' hS => ?_⟩) hb0 ?_; rotate_left; (skip; go_simp <;> with_reducible rfl)) | (refine anyH_free (i := 6) (v := undef) rfl (by kernel_rfl) (fun _ _ _ h => h) (Or.inr ⟨rfl, rfl⟩) hb0 ?_)); (simp only [Act.put, List.setIfInBounds_toArray, List.set_cons_zero, List.set_cons_succ])); ((first | (refine anyH_free (i := 7) (v := ?_) rfl (by kernel_rfl) (fun _ _ _ h => h) (Or.inl ⟨rfl, fun w' hS => ?_⟩) hb0 ?_; rotate_left; (skip; go_simp <;> with_reducible rfl)) | (refine anyH_free (i := 7) (v := undef) rfl (by kernel_rfl) (fun _ _ _ h => h) (Or.inr ⟨rfl, rfl⟩) hb0 ?_)); (simp only [Act.put, List.setIfInBounds_toArray, List.set_cons_zero, List.set_cons_succ])); ((first | (refine anyH_free (i := 8) (v := ?_) rfl (by kernel_rfl) (fun _ _ _ h => h) (Or.inl ⟨rfl, fun w' hS => ?_⟩) hb0 ?_; rotate_left; (skip; go_simp <;> with_reducible rfl)) | (refine anyH_free (i := 8) (v := undef) rfl (by kernel_rfl) (fun _ _ _ h => h) (Or.inr ⟨rfl, rfl⟩) hb0 ?_)); (simp only [Act.put, List.setIfInBounds_toArray, List.set_cons_zero, List.set_cons_succ])); ((first | (refine anyH_free (i := 9) (v := ?_) rfl (by kernel_rfl) (fun _ _ _ h => h) (Or.inl ⟨rfl, fun w' hS => ?_⟩) hb0 ?_; rotate_left; (skip; go_simp <;> with_reducible rfl)) | (refine anyH_free (i := 9) (v := undef) rfl (by kernel_rfl) (fun _ _ _ h => h) (Or.inr ⟨rfl, rfl⟩) hb0 ?_)); (simp only [Act.put, List.setIfInBounds_toArray, List.set_cons_zero, List.set_cons_succ])); ((first | (refine anyH_free (i := 10) (v := ?_) rfl (by kernel_rfl) (fun _ _ _ h => h) (Or.inl ⟨rfl, fun w' hS => ?_⟩) hb0 ?_; rotate_left; (skip; go_simp <;> with_reducible rfl)) | (refine anyH_free (i := 10) (v := undef) rfl (by kernel_rfl) (fun _ _ _ h => h) (Or.inr ⟨rfl, rfl⟩) hb0 ?_)); (simp only [Act.put, List.setIfInBounds_toArray, List.set_cons_zero, List.set_cons_succ])); ((first | (refine anyH_free (i := 11) (v := ?_) rfl (by kernel_rfl) (fun _ _ _ h => h) (Or.inl ⟨rfl, fun w' hS => ?_⟩) hb0 ?_; rotate_left; (skip; go_simp <;> with_reducible rfl)) | (refine anyH_free (i := 11) (v := undef) rfl (by kernel_rfl) (fun _ _ _ h => h) (Or.inr ⟨rfl, rfl⟩) hb0 ?_)); (simp only [Act.put, List.setIfInBounds_toArray, List.set_cons_zero, List.set_cons_succ])); ((first | (refine anyH_free (i := 12) (v := ?_) rfl (by kernel_rfl) (fun _ _ _ h => h) (Or.inl ⟨rfl, fun w' hS => ?_⟩) hb0 ?_; rotate_left; (skip; go_simp <;> with_reducible rfl)) | (refine anyH_free (i := 12) (v := undef) rfl (by kernel_rfl) (fun _ _ _ h => h) (Or.inr ⟨rfl, rfl⟩) hb0 ?_)); (simp only [Act.put, List.setIfInBounds_toArray, List.set_cons_zero, List.set_cons_succ])); ((first | (refine anyH_free (i := 13) (v := ?_) rfl (by kernel_rfl) (fun _ _ _ h => h) (Or.inl ⟨rfl, fun w' hS => ?_⟩) hb0 ?_; rotate_left; (skip; go_simp <;> with_reducible rfl)) | (refine anyH_free (i := 13) (v := undef) rfl (by kernel_rfl) (fun _ _ _ h => h) (Or.inr ⟨rfl, rfl⟩) hb0 ?_)); (simp only [Act.put, List.setIfInBounds_toArray, List.set_cons_zero, List.set_cons_succ])); ((first | (refine anyH_free (i := 14) (v := ?_) rfl (by kernel_rfl) (fun _ _ _ h => h) (Or.inl ⟨rfl, fun w' hS => ?_⟩) hb0 ?_; rotate_left; (skip; go_simp <;> with_reducible rfl)) | (refine anyH_free (i := 14) (v := undef) rfl (by kernel_rfl) (fun _ _ _ h => h) (Or.inr ⟨rfl, rfl⟩) hb0 ?_)); (simp only [Act.put, List.setIfInBounds_toArray, List.set_cons_zero, List.set_cons_succ])); ((first | (refine anyH_free (i := 15) (v := ?_) rfl (by kernel_rfl) (fun _ _ _ h => h) (Or.inl ⟨rfl, fun w' hS => ?_⟩) hb0 ?_; rotate_left; (skip; go_simp <;> with_reducible rfl)) | (refine anyH_free (i := 15) (v := undef) rfl (by kernel_rfl) (fun _ _ _ h => h) (Or.inr ⟨rfl, rfl⟩) hb0 ?_)); (simp only [Act.put, List.setIfInBounds_toArray, List.set_cons_zero, List.set_cons_succ]))
  refine anyH_done (by kernel_rfl) ?_
  have HB2 := Lib.hid (HB.out.trans (hb0.mono HB.out.size))
  clear hb0
  go_wp2_with fail
  go_ret
  exact HE.out _ HB2.out
set_option maxRecDepth 100000 in
set_option maxHeartbeats 2000000 in
theorem add_min {S T : Nat → Prop} {p : Nat} {xs : List Ox} {r : Mr} {at_ : Int} {w : World} (h : BxAt S p w xs) (hm : Mo T w r) (hf : r.m.ks.length ≤ 100000 ∧ r.m.ss.length ≤ 100000) (hn : xs.length ≤ 6) (hS : ∀ k, w.heap.size ≤ k → S k) (hmin : minB at_ = true) : Calls Try.prog 9 #[bv p, mv r, .int .i64 at_] w (AddTo S p xs r.m at_ w) := by
  have hb0 : Below w.heap.size w (w.alloc (.cells (mc r) 31)) := (Below.refl _ w).alloc (Nat.le_refl _) _
  have HN := Lib.hid (none_any (h.below hb0))
  have b4 := Box.new w (mc r) 31
  have HMI := Lib.hid hmin
  have HB := Lib.hid hb0
  have HE2 : Hid (hasM xs r.m = true → ∀ w', Below w.heap.size w w' → AddTo S p xs r.m at_ w (.returned (.int .i64 2)) w') := Lib.hid fun hh w' hb => ⟨by unfold addE; simp [hmin, hh], by unfold addL; simp [hmin, hh]; exact h.below hb, kept_of_below hb⟩
  have HE3 : Hid (hasM xs r.m = false → ¬ xs.length < 6 → ∀ w', Below w.heap.size w w' → AddTo S p xs r.m at_ w (.returned (.int .i64 240)) w') := Lib.hid fun hh h6 w' hb => ⟨by unfold addE; simp [hmin, hh, h6], by unfold addL; simp [hmin, hh, h6]; exact h.below hb, kept_of_below hb⟩
  have HE4 : Hid (hasM xs r.m = false → xs.length < 6 → ∀ w', BxAt S p w' (xs ++ [⟨r.m, 0, at_⟩]) → Kept (fun b => b = p ∨ S b) w w' → AddTo S p xs r.m at_ w (.returned (.int .i64 0)) w') := Lib.hid fun hh h6 w' h1 h2 => ⟨by unfold addE; simp [hmin, hh, h6], by unfold addL; simp [hmin, hh, h6]; exact h1, h2⟩
  obtain ⟨v, rs, hrs, hin0⟩ := h
  have hin := hin0.kept (F := fun _ => False) (kept_of_below hb0) (fun _ _ _ x => x) (fun x => x)
  obtain ⟨p1, c1, rfl⟩ := owns_slice hin.own
  have HOL0 : ∀ b, (Value.slice p1 rs.length c1).ownBlock = some b → b < w.heap.size := fun b e => (hin0.own.lt b e).2
  have hpl := hin0.box.lt
  have hosl : Osl (fun _ => True) (w.alloc (.cells (mc r) 31)) (.slice p1 rs.length c1) xs := ⟨rs, hrs, (Sl.owned encO_len hin.own).mono (fun _ _ _ => trivial), fun o ho => (hin.mo o ho).mono (fun _ _ _ => trivial)⟩
  obtain ⟨W, hW⟩ : ∃ W, (w.alloc (.cells (mc r) 31)) = W := ⟨_, rfl⟩
  rw [hW] at HN HB b4 hosl hin
  have HX := Lib.hid hin.box
  have H4 := Lib.hid b4
  have HO := Lib.hid hosl
  have HW := Lib.hid hW
  have HOL : Hid (∀ b, (Value.slice p1 rs.length c1).ownBlock = some b → b < w.heap.size) := Lib.hid HOL0
  obtain ⟨kv, sv, m⟩ := r
  clear hb0 hmin hW b4 hosl hin0 HOL0
  go_enter Try.func9, Try.ntmps9
  go_wp2_with fail
  rw [HW.out]
  refine HN.out.mono ?_
  rintro e w1 ⟨rfl, rfl⟩
  clear HN
  go_wp2_with fail
  refine anyH_start 16 (fun w' => Below W.heap.size W w') (by kernel_rfl) rfl ?_
  have hb0 : Below W.heap.size W W.drew := (Below.refl _ W).drew
  ((first | (refine anyH_free (i := 0) (v := ?_) rfl (by kernel_rfl) (fun _ _ _ h => h) (Or.inl ⟨rfl, fun w' hS => ?_⟩) hb0 ?_; rotate_left; (skip; go_simp <;> with_reducible rfl)) | (refine anyH_free (i := 0) (v := undef) rfl (by kernel_rfl) (fun _ _ _ h => h) (Or.inr ⟨rfl, rfl⟩) hb0 ?_)); (simp only [Act.put, List.setIfInBounds_toArray, List.set_cons_zero, List.set_cons_succ]))
  refine anyH_sole (i := 1) rfl (by kernel_rfl) rfl (fun K hK => ?_)
  go_simp
  refine (minute_any at_ _).mono ?_
  rw [HMI.out]
  rintro e w2 ⟨rfl, rfl⟩
  refine hK _ _ hb0 ?_
  clear hK K
  ((first | (refine anyH_free (i := 2) (v := ?_) rfl (by kernel_rfl) (fun _ _ _ h => h) (Or.inl ⟨rfl, fun w' hS => ?_⟩) hb0 ?_; rotate_left; ((have c := (HX.out.below hS).rd.1; have c4 := (H4.out.below hS).rd.1); go_simp <;> with_reducible rfl)) | (refine anyH_free (i := 2) (v := undef) rfl (by kernel_rfl) (fun _ _ _ h => h) (Or.inr ⟨rfl, rfl⟩) hb0 ?_)); (simp only [Act.put, List.setIfInBounds_toArray, List.set_cons_zero, List.set_cons_succ])); ((first | (refine anyH_free (i := 3) (v := ?_) rfl (by kernel_rfl) (fun _ _ _ h => h) (Or.inl ⟨rfl, fun w' hS => ?_⟩) hb0 ?_; rotate_left; ((have c := (HX.out.below hS).rd.1; have c4 := (H4.out.below hS).rd.1); go_simp <;> with_reducible rfl)) | (refine anyH_free (i := 3) (v := undef) rfl (by kernel_rfl) (fun _ _ _ h => h) (Or.inr ⟨rfl, rfl⟩) hb0 ?_)); (simp only [Act.put, List.setIfInBounds_toArray, List.set_cons_zero, List.set_cons_succ])); ((first | (refine anyH_free (i := 4) (v := ?_) rfl (by kernel_rfl) (fun _ _ _ h => h) (Or.inl ⟨rfl, fun w' hS => ?_⟩) hb0 ?_; rotate_left; ((have c := (HX.out.below hS).rd.1; have c4 := (H4.out.below hS).rd.1); go_simp <;> with_reducible rfl)) | (refine anyH_free (i := 4) (v := undef) rfl (by kernel_rfl) (fun _ _ _ h => h) (Or.inr ⟨rfl, rfl⟩) hb0 ?_)); (simp only [Act.put, List.setIfInBounds_toArray, List.set_cons_zero, List.set_cons_succ])); ((first | (refine anyH_free (i := 5) (v := ?_) rfl (by kernel_rfl) (fun _ _ _ h => h) (Or.inl ⟨rfl, fun w' hS => ?_⟩) hb0 ?_; rotate_left; ((have c := (HX.out.below hS).rd.1; have c4 := (H4.out.below hS).rd.1); go_simp <;> with_reducible rfl)) | (refine anyH_free (i := 5) (v := undef) rfl (by kernel_rfl) (fun _ _ _ h => h) (Or.inr ⟨rfl, rfl⟩) hb0 ?_)); (simp only [Act.put, List.setIfInBounds_toArray, List.set_cons_zero, List.set_cons_succ])); ((first | (refine anyH_free (i := 6) (v := ?_) rfl (by kernel_rfl) (fun _ _ _ h => h) (Or.inl ⟨rfl, fun w' hS => ?_⟩) hb0 ?_; rotate_left; ((have c := (HX.out.below hS).rd.1; have c4 := (H4.out.below hS).rd.1); go_simp <;> with_reducible rfl)) | (refine anyH_free (i := 6) (v := undef) rfl (by kernel_rfl) (fun _ _ _ h => h) (Or.inr ⟨rfl, rfl⟩) hb0 ?_)); (simp only [Act.put, List.setIfInBounds_toArray, List.set_cons_zero, List.set_cons_succ])); ((first | (refine anyH_free (i := 7) (v := ?_) rfl (by kernel_rfl) (fun _ _ _ h => h) (Or.inl ⟨rfl, fun w' hS => ?_⟩) hb0 ?_; rotate_left; ((have c := (HX.out.below hS).rd.1; have c4 := (H4.out.below hS).rd.1); go_simp <;> with_reducible rfl)) | (refine anyH_free (i := 7) (v := undef) rfl (by kernel_rfl) (fun _ _ _ h => h) (Or.inr ⟨rfl, rfl⟩) hb0 ?_)); (simp only [Act.put, List.setIfInBounds_toArray, List.set_cons_zero, List.set_cons_succ])); ((first | (refine anyH_free (i := 8) (v := ?_) rfl (by kernel_rfl) (fun _ _ _ h => h) (Or.inl ⟨rfl, fun w' hS => ?_⟩) hb0 ?_; rotate_left; ((have c := (HX.out.below hS).rd.1; have c4 := (H4.out.below hS).rd.1); go_simp <;> with_reducible rfl)) | (refine anyH_free (i := 8) (v := undef) rfl (by kernel_rfl) (fun _ _ _ h => h) (Or.inr ⟨rfl, rfl⟩) hb0 ?_)); (simp only [Act.put, List.setIfInBounds_toArray, List.set_cons_zero, List.set_cons_succ])); ((first | (refine anyH_free (i := 9) (v := ?_) rfl (by kernel_rfl) (fun _ _ _ h => h) (Or.inl ⟨rfl, fun w' hS => ?_⟩) hb0 ?_; rotate_left; ((have c := (HX.out.below hS).rd.1; have c4 := (H4.out.below hS).rd.1); go_simp <;> with_reducible rfl)) | (refine anyH_free (i := 9) (v := undef) rfl (by kernel_rfl) (fun _ _ _ h => h) (Or.inr ⟨rfl, rfl⟩) hb0 ?_)); (simp only [Act.put, List.setIfInBounds_toArray, List.set_cons_zero, List.set_cons_succ])); ((first | (refine anyH_free (i := 10) (v := ?_) rfl (by kernel_rfl) (fun _ _ _ h => h) (Or.inl ⟨rfl, fun w' hS => ?_⟩) hb0 ?_; rotate_left; ((have c := (HX.out.below hS).rd.1; have c4 := (H4.out.below hS).rd.1); go_simp <;> with_reducible rfl)) | (refine anyH_free (i := 10) (v := undef) rfl (by kernel_rfl) (fun _ _ _ h => h) (Or.inr ⟨rfl, rfl⟩) hb0 ?_)); (simp only [Act.put, List.setIfInBounds_toArray, List.set_cons_zero, List.set_cons_succ])); ((first | (refine anyH_free (i := 11) (v := ?_) rfl (by kernel_rfl) (fun _ _ _ h => h) (Or.inl ⟨rfl, fun w' hS => ?_⟩) hb0 ?_; rotate_left; ((have c := (HX.out.below hS).rd.1; have c4 := (H4.out.below hS).rd.1); go_simp <;> with_reducible rfl)) | (refine anyH_free (i := 11) (v := undef) rfl (by kernel_rfl) (fun _ _ _ h => h) (Or.inr ⟨rfl, rfl⟩) hb0 ?_)); (simp only [Act.put, List.setIfInBounds_toArray, List.set_cons_zero, List.set_cons_succ]))
  refine anyH_sole (i := 12) rfl (by kernel_rfl) rfl (fun K hK => ?_)
  go_simp
  refine (place_any (r := m.rule) (i := m.at_) (HO.out.below hb0) (by omega)).mono ?_
  rintro e w3 ⟨z, rfl, hz, hb⟩
  have hb3 := hb0.trans (hb.mono hb0.size)
  refine hK _ _ hb3 ?_
  clear hK K hb
  rcases found_has hz with ⟨hz0, hhas⟩ | ⟨rfl, hhas⟩
  · ((first | (refine anyH_free (i := 13) (v := ?_) rfl (by kernel_rfl) (fun _ _ _ h => h) (Or.inl ⟨rfl, fun w' hS => ?_⟩) hb3 ?_; rotate_left; (skip; go_simp <;> with_reducible rfl)) | (refine anyH_free (i := 13) (v := undef) rfl (by kernel_rfl) (fun _ _ _ h => h) (Or.inr ⟨rfl, rfl⟩) hb3 ?_)); (simp only [Act.put, List.setIfInBounds_toArray, List.set_cons_zero, List.set_cons_succ])); ((first | (refine anyH_free (i := 14) (v := ?_) rfl (by kernel_rfl) (fun _ _ _ h => h) (Or.inl ⟨rfl, fun w' hS => ?_⟩) hb3 ?_; rotate_left; (skip; go_simp <;> with_reducible rfl)) | (refine anyH_free (i := 14) (v := undef) rfl (by kernel_rfl) (fun _ _ _ h => h) (Or.inr ⟨rfl, rfl⟩) hb3 ?_)); (simp only [Act.put, List.setIfInBounds_toArray, List.set_cons_zero, List.set_cons_succ])); ((first | (refine anyH_free (i := 15) (v := ?_) rfl (by kernel_rfl) (fun _ _ _ h => h) (Or.inl ⟨rfl, fun w' hS => ?_⟩) hb3 ?_; rotate_left; (skip; go_simp <;> with_reducible rfl)) | (refine anyH_free (i := 15) (v := undef) rfl (by kernel_rfl) (fun _ _ _ h => h) (Or.inr ⟨rfl, rfl⟩) hb3 ?_)); (simp only [Act.put, List.setIfInBounds_toArray, List.set_cons_zero, List.set_cons_succ]))
    refine anyH_done (by kernel_rfl) ?_
    have HB3 := Lib.hid (HB.out.trans (hb3.mono HB.out.size))
    have HH := Lib.hid hhas
    clear hb0 hb3 hz hhas
    go_wp2_with fail
    go_ret
    exact HE2.out HH.out _ HB3.out
  · ((first | (refine anyH_free (i := 13) (v := ?_) rfl (by kernel_rfl) (fun _ _ _ h => h) (Or.inl ⟨rfl, fun w' hS => ?_⟩) hb3 ?_; rotate_left; (skip; go_simp <;> with_reducible rfl)) | (refine anyH_free (i := 13) (v := undef) rfl (by kernel_rfl) (fun _ _ _ h => h) (Or.inr ⟨rfl, rfl⟩) hb3 ?_)); (simp only [Act.put, List.setIfInBounds_toArray, List.set_cons_zero, List.set_cons_succ])); ((first | (refine anyH_free (i := 14) (v := ?_) rfl (by kernel_rfl) (fun _ _ _ h => h) (Or.inl ⟨rfl, fun w' hS => ?_⟩) hb3 ?_; rotate_left; (skip; go_simp <;> with_reducible rfl)) | (refine anyH_free (i := 14) (v := undef) rfl (by kernel_rfl) (fun _ _ _ h => h) (Or.inr ⟨rfl, rfl⟩) hb3 ?_)); (simp only [Act.put, List.setIfInBounds_toArray, List.set_cons_zero, List.set_cons_succ])); ((first | (refine anyH_free (i := 15) (v := ?_) rfl (by kernel_rfl) (fun _ _ _ h => h) (Or.inl ⟨rfl, fun w' hS => ?_⟩) hb3 ?_; rotate_left; (skip; go_simp <;> with_reducible rfl)) | (refine anyH_free (i := 15) (v := undef) rfl (by kernel_rfl) (fun _ _ _ h => h) (Or.inr ⟨rfl, rfl⟩) hb3 ?_)); (simp only [Act.put, List.setIfInBounds_toArray, List.set_cons_zero, List.set_cons_succ]))
    refine anyH_done (by kernel_rfl) ?_
    have HB3 := Lib.hid (HB.out.trans (hb3.mono HB.out.size))
    have HH := Lib.hid hhas
    have c := (HX.out.below hb3).rd.1
    have hrl : rs.length = xs.length := by rw [← hrs, List.length_map]
    by_cases h6 : xs.length < 6
    · have h6' : (rs.length : Int) < 6 := by omega
      obtain ⟨q1, d1, e3, -, -⟩ := hm.k.len
      obtain ⟨q2, d2, e4, -, -⟩ := hm.s.len
      simp only at e3 e4
      subst e3 e4
      have hm3 := hm.below HB3.out
      have hin3 := hin.kept (F := fun _ => False) (kept_of_below hb3) (fun _ _ _ x => x) (fun x => x)
      have HM3 := Lib.hid hm3
      have HIN := Lib.hid hin3
      have HFW := Lib.hid hf
      have h43 := H4.out.below hb3
      have H43 := Lib.hid h43
      have hs3 := HB3.out.size
      have hrl6 : rs.length < 6 := by omega
      have HRS := Lib.hid hrs
      clear hb0 hb3 hz hhas hm hm3 hin hin3 hf hrl hrs
      go_wp2_with fail
      clear c
      obtain ⟨i0, hi, hi0, hi1, hi2⟩ := info_parts info_owed
      have HI := Lib.hid hi
      have HI0 := Lib.hid hi0
      have HI1 := Lib.hid hi1
      have HI2 := Lib.hid hi2
      clear hi hi0 hi1 hi2
      refine wp_region_ord [0, 1, 2, 3, 4, 5, 7, 6, 8, 9, 10, 11, 12, 13] (fun w' => Kept (fun b => (Value.slice p1 rs.length c1).ownBlock = some b) w3 w') 13 (by kernel_rfl) (by kernel_rfl) ?_
      have hb0 : Kept (fun b => (Value.slice p1 rs.length c1).ownBlock = some b) w3 w3.drew := (Kept.refl _ w3).drew
      have HNP : Hid (¬ (Value.slice p1 rs.length c1).ownBlock = some p) := Lib.hid fun e => HIN.out.np (HIN.out.os p e)
      have HNB : Hid (¬ (Value.slice p1 rs.length c1).ownBlock = some w.heap.size) := Lib.hid fun e => by have := HOL.out _ e; omega
      have HX3 := Lib.hid HIN.out.box
      iterate 7 ((first | (refine wpOrd_free (v := ?_) rfl (by kernel_rfl) (fun _ _ _ h => h) (Or.inl ⟨rfl, fun w' hS => ?_⟩) hb0 ?_; rotate_left; (have c := (HX3.out.kept hS HNP.out).rd.1; have c0 := (H43.out.kept hS HNB.out).rd.1; go_simp <;> with_reducible rfl)) | (refine wpOrd_free (v := undef) rfl (by kernel_rfl) (fun _ _ _ h => h) (Or.inr ⟨rfl, rfl⟩) hb0 ?_)); (simp only [Act.put, List.setIfInBounds_toArray, List.set_cons_zero, List.set_cons_succ]))
      refine wpOrd_sole rfl (by kernel_rfl) rfl (fun K hK => ?_)
      go_simp
      refine (twin_any (x := ⟨.slice q1 m.ks.length d1, .slice q2 m.ss.length d2, m⟩) (HM3.out.below (Below.refl _ w3).drew) HFW.out).mono ?_
      rintro e w4 ⟨r1, rfl, hrm, hmw, hb1⟩
      obtain ⟨q3, d3, q4, d4, hr1⟩ := hmw.mo.open
      rw [hrm] at hr1
      subst hr1
      have hb1' : Below w3.heap.size w3 w4 := below_then (Below.refl _ w3).drew hb1
      refine hK _ _ (.inr (kept_of_below hb1')) ?_
      clear hK K hrm
      have hbk1 : Kept (fun b => (Value.slice p1 rs.length c1).ownBlock = some b) w3 w4 := kept_of_below hb1'
      iterate 1 ((first | (refine wpOrd_free (v := ?_) rfl (by kernel_rfl) (fun _ _ _ h => h) (Or.inl ⟨rfl, fun w' hS => ?_⟩) hbk1 ?_; rotate_left; (skip; go_simp <;> with_reducible rfl)) | (refine wpOrd_free (v := undef) rfl (by kernel_rfl) (fun _ _ _ h => h) (Or.inr ⟨rfl, rfl⟩) hbk1 ?_)); (simp only [Act.put, List.setIfInBounds_toArray, List.set_cons_zero, List.set_cons_succ]))
      refine wpOrd_sole rfl (by kernel_rfl) rfl (fun K hK => ?_)
      go_simp
      have hb2 := hb1'.alloc hb1'.size (.cells #[.int .u32 m.rule, .string m.route, .int .i64 m.at_, .slice q3 m.ks.length d3, .slice q4 m.ss.length d4, .int .i64 0, .int .i64 at_] 36)
      refine hK _ _ (.inr (kept_of_below hb2)) ?_
      clear hK K
      refine wpOrd_sole rfl (by kernel_rfl) rfl (fun K hK => ?_)
      refine wp_append_sl encO_len (.tmp 37) (.tmp 42) 33 (by rfl) 0 36 i0 _ 96 Try.underlying33 HI.out HI0.out HI1.out HI2.out (by rfl) (by decide) (v := .slice p1 rs.length c1) (xs := rs) (ys := [⟨⟨.slice q3 m.ks.length d3, .slice q4 m.ss.length d4, m⟩, 0, at_⟩]) (by rfl) (by rfl) (owns_keep HIN.out.own (fun b e => hb2.block b (HIN.out.own.lt b e).2)) (Sl.one (S := fun _ => True) encO_len (Box.new _ _ _) rfl trivial) (by simp [Value.oneCell']) (by simp only [List.length_cons, List.length_nil]; unfold maxLen; omega) (by simp only [List.length_cons, List.length_nil]; omega) (by omega) ?_
      intro v2 w2 hown hk3 hat
      obtain ⟨p4, q5, rfl⟩ := owns_slice hown
      have hk2 := Kept.first hb2 hk3
      refine hK _ _ (.inr hk2) ?_
      clear hK K
      simp only [Act.put, List.setIfInBounds_toArray]
      have c := (HX3.out.kept hk2 HNP.out).rd.1
      have z := (HX3.out.kept hk2 HNP.out).rd.2
      iterate 2 ((first | (refine wpOrd_free (v := ?_) rfl (by kernel_rfl) (fun _ _ _ h => h) (Or.inl ⟨rfl, fun w' hS => ?_⟩) hk2 ?_; rotate_left; (skip; go_simp <;> with_reducible rfl)) | (refine wpOrd_free (v := undef) rfl (by kernel_rfl) (fun _ _ _ h => h) (Or.inr ⟨rfl, rfl⟩) hk2 ?_)); (simp only [Act.put, List.setIfInBounds_toArray, List.set_cons_zero, List.set_cons_succ]))
      refine wpOrd_sole rfl (by kernel_rfl) rfl (fun K hK => ?_)
      go_simp
      refine hK _ _ (.inl rfl) ?_
      clear hK K
      refine ⟨by kernel_rfl, ?_⟩
      go_wp2
      go_ret
      have hw1 := hb1'.size
      rw [List.length_append, World.size_alloc] at hat
      have hat' : (Value.slice p4 (rs.length + 1) q5).ownBlock = (Value.slice p1 rs.length c1).ownBlock ∨ (Value.slice p4 (rs.length + 1) q5).ownBlock = some (w4.heap.size + 1) := hat
      rw [List.length_append] at hown
      have hne : ∀ b, (Value.slice p4 (rs.length + 1) q5).ownBlock = some b → S b ∧ b ≠ p := fun b e => by
        rcases hat' with h | h
        · rw [h] at e
          exact ⟨HIN.out.os b e, fun hb => HNP.out (hb ▸ e)⟩
        · rw [h] at e
          cases e
          exact ⟨hS _ (by omega), by omega⟩
      have hK1 : Kept (fun k => k = p) w2 (w2.setCell ⟨p, 0, none⟩ (.slice p4 (rs.length + 1) q5)) := (Kept.refl _ w2).setCell _ _ (by simp)
      have hSp : ∀ k, S k → ¬ k = p := fun k hk e => HIN.out.np (e ▸ hk)
      refine HE4.out HH.out h6 _ ⟨_, rs ++ [⟨⟨.slice q3 m.ks.length d3, .slice q4 m.ss.length d4, m⟩, 0, at_⟩], by rw [List.map_append, HRS.out]; rfl, (HX3.out.kept hk2 HNP.out).set _, ?_, fun b e => (hne b e).1, fun r hr => ?_, HIN.out.np⟩ ((Kept.first HB3.out (hk2.mono (fun i _ e => Or.inr (HIN.out.os i e)))).setCell _ _ (fun _ => .inl rfl))
      · rw [List.length_append]
        exact owns_keep hown (fun b e => hK1.block b (hown.lt b e).2 (fun hb => (hne b e).2 hb))
      · have hfin : ∀ {r : Mr}, Mo (fun b => S b ∧ (Value.slice p4 (rs.length + 1) q5).ownBlock ≠ some b) w2 r → Mo (fun b => S b ∧ (Value.slice p4 (rs.length + 1) q5).ownBlock ≠ some b) (w2.setCell ⟨p, 0, none⟩ (.slice p4 (rs.length + 1) q5)) r := fun h => h.kept hK1 (fun k _ s => hSp k s.1)
        refine hfin ?_
        rcases List.mem_append.1 hr with hr | hr
        · have h1 := (HIN.out.mo r hr).mono (T := fun b => (S b ∧ (Value.slice p1 rs.length c1).ownBlock ≠ some b) ∧ (Value.slice p4 (rs.length + 1) q5).ownBlock ≠ some b) (fun k hk s => ⟨s, by
            rcases hat' with h | h
            · rw [h]; exact s.2
            · rw [h]
              intro e
              cases e
              omega⟩)
          exact (h1.kept hk2 (fun k _ s => s.1.2)).mono (fun k _ s => ⟨s.1.1, s.2⟩)
        · obtain rfl : r = ⟨⟨.slice q3 m.ks.length d3, .slice q4 m.ss.length d4, m⟩, 0, at_⟩ := by simpa using hr
          have h1 := hmw.mo.mono (T := fun b => (S b ∧ (Value.slice p1 rs.length c1).ownBlock ≠ some b) ∧ (Value.slice p4 (rs.length + 1) q5).ownBlock ≠ some b) (fun k hk s => by
            have s' : w3.heap.size ≤ k := s
            refine ⟨⟨hS k (by omega), fun e => by have := HOL.out k e; omega⟩, ?_⟩
            rcases hat' with h | h
            · rw [h]
              exact fun e => by have := HOL.out k e; omega
            · rw [h]
              intro e
              cases e
              omega)
          exact ((h1.below ((Below.refl _ w4).alloc (Nat.le_refl _) _)).kept hk3 (fun k _ s => s.1.2)).mono (fun k _ s => ⟨s.1.1, s.2⟩)
    · have h6' : (6 : Int) ≤ (rs.length : Int) := by omega
      clear hb0 hb3 hz hhas hrl hrs
      go_wp2_with fail
      go_ret
      exact HE3.out HH.out h6 _ HB3.out
end Go.Proofs.Ytfaafndaelmbfaa
