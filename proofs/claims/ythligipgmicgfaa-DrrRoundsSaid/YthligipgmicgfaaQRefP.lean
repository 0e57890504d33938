/- The document's Push. -/
import Derived.Test.YthligipgmicgfaaQRef
namespace Go.Proofs.Ythligipgmicgfaa
open Go.RowKit
attribute [local go_sem] Oper.semAt_some

def RefPushTo (U : Nat → Prop) (xs : List It) (x : It) (w : World) (e : Ending) (w' : World) : Prop := ∃ v, e = .returned (.tuple #[v, .int .i64 (pushE xs x)]) ∧ Its U w' v (pushL xs x) ∧ Below w.heap.size w w'
set_option maxRecDepth 100000 in
set_option maxHeartbeats 1000000 in
theorem refPush_arg {U : Nat → Prop} {v lv : Value} {xs : List It} {x : It} {w : World} (h : Its U w v xs) (hx : x.cost < 1 ∨ 256 < x.cost) : Calls Try.prog 20 #[v, iv lv x] w (RefPushTo U xs x w) := by
  have hm : mayCost x = false := by
    unfold mayCost
    rcases hx with hx | hx
    · rw [decide_eq_false (by omega : ¬ 1 ≤ x.cost)]; rfl
    · rw [decide_eq_false (by omega : ¬ x.cost ≤ 256), Bool.and_false]
  have hb0 : Below w.heap.size w (w.alloc (.cells #[lv, .int .i64 x.at_, .int .i64 x.vl, .int .i64 x.cost] 45)) := (Below.refl _ w).alloc (Nat.le_refl _) _
  have he : RefPushTo U xs x w (.returned (.tuple #[v, .int .i64 2])) (w.alloc (.cells #[lv, .int .i64 x.at_, .int .i64 x.vl, .int .i64 x.cost] 45)) := by
    refine ⟨v, by unfold pushE; rw [hm]; rfl, ?_, hb0⟩
    unfold pushL
    rw [hm]
    exact h.below hb0
  have HE := Lib.hid he
  clear h hm he hb0
  rcases hx with hx | hx
  · go_enter Try.func20, Try.ntmps20
    go_wp2
    go_ret2
    exact HE.out
  · have hx1 : ¬ x.cost < 1 := by omega
    have hd : decide (x.cost < 1) = false := decide_eq_false hx1
    go_enter Try.func20, Try.ntmps20
    go_wp2
    go_ret2
    exact HE.out
set_option maxRecDepth 100000 in
set_option maxHeartbeats 1000000 in
theorem refPush_full {U : Nat → Prop} {v lv : Value} {xs : List It} {x : It} {w : World} (h : Its U w v xs) (hx1 : 1 ≤ x.cost) (hx2 : x.cost ≤ 256) (hn : 8 ≤ xs.length) : Calls Try.prog 20 #[v, iv lv x] w (RefPushTo U xs x w) := by
  have hm : mayCost x = true := by unfold mayCost; simp [hx1, hx2]
  have hb0 : Below w.heap.size w (w.alloc (.cells #[lv, .int .i64 x.at_, .int .i64 x.vl, .int .i64 x.cost] 45)) := (Below.refl _ w).alloc (Nat.le_refl _) _
  have he : RefPushTo U xs x w (.returned (.tuple #[v, .int .i64 200])) (w.alloc (.cells #[lv, .int .i64 x.at_, .int .i64 x.vl, .int .i64 x.cost] 45)) := by
    refine ⟨v, by unfold pushE; rw [hm, if_pos rfl, if_neg (by omega)], ?_, hb0⟩
    unfold pushL
    rw [hm, decide_eq_false (by omega)]
    exact h.below hb0
  obtain ⟨p1, q1, rfl⟩ := h.slice
  have hx3 : ¬ x.cost < 1 := by omega
  have hd : decide (x.cost < 1) = false := decide_eq_false hx3
  have hd2 : decide (256 < x.cost) = false := decide_eq_false (by omega)
  have hn8 : (8 : Int) ≤ xs.length := by omega
  have HE := Lib.hid he
  clear h hm he hb0
  go_enter Try.func20, Try.ntmps20
  go_wp2
  go_ret2
  exact HE.out
/-- the rows so far: a copy of the items, labels as they were -/
structure RP (U : Nat → Prop) (w W : World) (rs : List (Value × It)) (lv : Value) (x : It) (W' : World) : Prop where
  below : Below W.heap.size W W'
  box : Box W' w.heap.size #[lv, .int .i64 x.at_, .int .i64 x.vl, .int .i64 x.cost] 45
theorem RP.step {U : Nat → Prop} {w W : World} {rs : List (Value × It)} {lv : Value} {x : It} {A B : World} (h : RP U w W rs lv x A) {F : Nat → Prop} (hk : Kept F A B) (hF : ∀ k, F k → W.heap.size ≤ k) (hw : w.heap.size < W.heap.size) : RP U w W rs lv x B :=
  ⟨h.below.trans (hk.below hF h.below.size), h.box.kept hk (fun e => by have := hF _ e; omega)⟩
theorem lab_one {S : Nat → Prop} {W : World} {r : Value × It} (h : Lab S W r) : ∀ u ∈ encI r, u.oneCell' = true := by
  intro u hu
  have h0 := Lb.oneCell h
  simp at hu
  rcases hu with rfl | rfl | rfl | rfl
  · exact h0
  · rfl
  · rfl
  · rfl
theorem rp_done {U : Nat → Prop} {W W' : World} {xs : List It} {rs : List (Value × It)} {lv v : Value} {x : It} {e : TypeId} (hm : rs.map Prod.snd = xs) (hlab : ∀ r ∈ rs, Lab U W r) (hl : Lb U W lv x.ls) (hb : Below W.heap.size W W') (ho : W'.ownsRow W.heap.size e 4 v ([] ++ rs ++ [(lv, x)]).length (([] ++ rs ++ [(lv, x)]).flatMap encI)) (hU : ∀ k, W.heap.size ≤ k → U k) : Its U W' v (xs ++ [x]) := by
  rw [List.nil_append] at ho
  refine Its.of_sl (rs := rs ++ [(lv, x)]) (by rw [List.map_append, hm]; rfl) ((Sl.owned encI_len ho).mono (fun k _ e => hU k (ho.lt k e).1)) (fun r hr => ?_)
  rcases List.mem_append.1 hr with hr | hr
  · exact (hlab r hr).below hb
  · obtain rfl : r = (lv, x) := by simpa using hr
    exact hl.below hb
set_option maxRecDepth 100000 in
set_option maxHeartbeats 4000000 in
theorem refPush_ok {U : Nat → Prop} {v lv : Value} {xs : List It} {x : It} {w : World} (h : Its U w v xs) (hl : Lb U w lv x.ls) (hx1 : 1 ≤ x.cost) (hx2 : x.cost ≤ 256) (hn : xs.length < 8) (hU : ∀ k, w.heap.size ≤ k → U k) : Calls Try.prog 20 #[v, iv lv x] w (RefPushTo U xs x w) := by
  have hm : mayCost x = true := by unfold mayCost; simp [hx1, hx2]
  have HE : Hid (∀ v' w', Its U w' v' (xs ++ [x]) → Below w.heap.size w w' → RefPushTo U xs x w (.returned (.tuple #[v', .int .i64 0])) w') := Lib.hid fun v' w' h1 h2 => by
    refine ⟨v', by unfold pushE; rw [hm, if_pos rfl, if_pos hn], ?_, h2⟩
    unfold pushL
    rw [hm, decide_eq_true hn]
    exact h1
  obtain ⟨i0, hi, hi0, hi1, hi2⟩ := info_parts info_refitem
  have HI := Lib.hid hi
  have HI0 := Lib.hid hi0
  have HI1 := Lib.hid hi1
  have HI2 := Lib.hid hi2
  have hb0 : Below w.heap.size w (w.alloc (.cells #[lv, .int .i64 x.at_, .int .i64 x.vl, .int .i64 x.cost] 45)) := (Below.refl _ w).alloc (Nat.le_refl _) _
  have b0 := Box.new w #[lv, .int .i64 x.at_, .int .i64 x.vl, .int .i64 x.cost] 45
  obtain ⟨p1, q1, rfl⟩ := h.slice
  obtain ⟨p2, q2, rfl⟩ := hl.slice
  have hx3 : ¬ x.cost < 1 := by omega
  have hd : decide (x.cost < 1) = false := decide_eq_false hx3
  have hd2 : decide (256 < x.cost) = false := decide_eq_false (by omega)
  have hn8 : (xs.length : Int) < 8 := by omega
  obtain ⟨rs, hrs, hsl, hlab⟩ := (h.below hb0).sl
  have hrl : rs.length < 8 := by rw [← hrs, List.length_map] at hn; exact hn
  have HL := Lib.hid (hl.below hb0)
  obtain ⟨W, hW⟩ : ∃ W, (w.alloc (.cells #[.slice p2 x.ls.length q2, .int .i64 x.at_, .int .i64 x.vl, .int .i64 x.cost] 45)) = W := ⟨_, rfl⟩
  rw [hW] at hb0 b0 hsl hlab HL
  have HW := Lib.hid hW
  have HRS := Lib.hid hrs
  have HSL := Lib.hid hsl
  have HLAB := Lib.hid hlab
  have HB0 := Lib.hid hb0
  have hWl : w.heap.size < W.heap.size := b0.lt
  have R0 : Hid (RP U w W rs (.slice p2 x.ls.length q2) x W.drew) := Lib.hid ⟨(Below.refl _ W).drew, b0⟩
  have RS : Hid (RP U w W rs (.slice p2 x.ls.length q2) x W) := Lib.hid ⟨Below.refl _ W, b0⟩
  clear h hl hm hi hi0 hi1 hi2 hb0 b0 hW hrs hsl hlab
  go_enter Try.func20, Try.ntmps20
  go_wp2_with fail
  rw [HW.out]
  refine anyH_start 8 (fun w' => RP U w W rs (.slice p2 x.ls.length q2) x w') (by kernel_rfl) rfl ?_
  have hs0 := R0.out
  ((first | (refine anyH_free (i := 1) (v := ?_) rfl (by kernel_rfl) (fun _ _ _ h => h) (Or.inl ⟨rfl, fun w' hS => ?_⟩) hs0 ?_; rotate_left; (have c0 := hS.box.rd.1; go_simp <;> with_reducible rfl)) | (refine anyH_free (i := 1) (v := undef) rfl (by kernel_rfl) (fun _ _ _ h => h) (Or.inr ⟨rfl, rfl⟩) hs0 ?_)); (simp only [Act.put, List.setIfInBounds_toArray, List.set_cons_zero, List.set_cons_succ])); ((first | (refine anyH_free (i := 3) (v := ?_) rfl (by kernel_rfl) (fun _ _ _ h => h) (Or.inl ⟨rfl, fun w' hS => ?_⟩) hs0 ?_; rotate_left; (have c0 := hS.box.rd.1; go_simp <;> with_reducible rfl)) | (refine anyH_free (i := 3) (v := undef) rfl (by kernel_rfl) (fun _ _ _ h => h) (Or.inr ⟨rfl, rfl⟩) hs0 ?_)); (simp only [Act.put, List.setIfInBounds_toArray, List.set_cons_zero, List.set_cons_succ]))
  refine anyH_two (i := 0) (j := 4) rfl rfl (by kernel_rfl) rfl rfl (fun K hK => ?_) (fun K hK => ?_)
  · skip
    go_simp
    have hR1 := RS.out.step (B := (W.alloc (.cells #[] 45)).drew) (kept_of_below (F := fun _ => False) (((Below.refl _ W).alloc (Nat.le_refl _) _).drew)) (fun _ e => e.elim) hWl
    refine hK _ _ hR1 ?_
    clear hK K
    refine any_gen (fun W1 => RP U w W rs (.slice p2 x.ls.length q2) x W1 ∧ W.heap.size < W1.heap.size ∧ W1.ownsRow W.heap.size 45 4 (.slice (some ⟨W.heap.size, 0, none⟩) 0 0) 0 []) ⟨hR1, by show W.heap.size < (W.alloc _).heap.size; rw [World.size_alloc]; omega, owns_empty (W := W) (Nat.le_refl _) rfl⟩ ?_
    rintro W1 ⟨r1, l1, o1⟩
    have R1 := Lib.hid r1
    have O1 := Lib.hid o1
    clear r1 o1 hR1
    refine anyH_two (i := 2) (j := 4) rfl rfl (by kernel_rfl) rfl rfl (fun K hK => ?_) (fun K hK => ?_)
    · skip
      refine wp_append_sl encI_len (.tmp 19) (.tmp 20) 41 (by rfl) W.heap.size 45 i0 _ 48 Try.underlying41 HI.out HI0.out HI1.out HI2.out (by rfl) (by decide) (xs := []) (ys := rs) (by rfl) (by rfl) O1.out (HSL.out.below R1.out.below) (fun r hr => lab_one (HLAB.out r hr)) (by simp only [List.length_nil]; unfold maxLen; omega) (by simp only [List.length_nil]; omega) R1.out.below.size ?_
      intro v2 W2 o2 k2 t2
      have hR2 := R1.out.step k2 (fun k e => by simp only [Value.ownBlock, Option.some.injEq] at e; subst e; exact Nat.le_refl _) hWl
      refine hK _ _ hR2 ?_
      clear hK K
      simp only [Act.put, List.setIfInBounds_toArray, List.set_cons_zero, List.set_cons_succ]
      have R2 := Lib.hid hR2
      have O2 := Lib.hid o2
      clear o2 k2 t2 hR2
      refine anyH_sole (i := 4) rfl (by kernel_rfl) rfl (fun K hK => ?_)
      go_simp
      have hR3 := R2.out.step (B := (W2.alloc (.cells #[.slice p2 x.ls.length q2, .int .i64 x.at_, .int .i64 x.vl, .int .i64 x.cost] 45))) (kept_of_below (F := fun _ => False) ((Below.refl _ W2).alloc (Nat.le_refl _) _)) (fun _ e => e.elim) hWl
      refine hK _ _ hR3 ?_
      clear hK K
      obtain ⟨b4, hb4⟩ : ∃ b, b = W2.heap.size := ⟨_, rfl⟩
      rw [← hb4]
      have hb4W : W.heap.size ≤ b4 := by rw [hb4]; exact R2.out.below.size
      refine any_gen (fun W3 => RP U w W rs (.slice p2 x.ls.length q2) x W3 ∧ b4 < W3.heap.size ∧ Box W3 b4 #[.slice p2 x.ls.length q2, .int .i64 x.at_, .int .i64 x.vl, .int .i64 x.cost] 45 ∧ W3.ownsRow W.heap.size 45 4 v2 ([] ++ rs).length (([] ++ rs).flatMap encI)) ⟨hR3, by show b4 < (W2.alloc _).heap.size; rw [World.size_alloc, hb4]; omega, by rw [hb4]; exact Box.new W2 _ _, O2.out.alloc _⟩ ?_
      rintro W3 ⟨r3, l3, i3, o3⟩
      have R3 := Lib.hid r3
      have I3 := Lib.hid i3
      have O3 := Lib.hid o3
      have HB4 := Lib.hid hb4
      clear hb4 r3 i3 hR3 o3
      refine anyH_sole (i := 5) rfl (by kernel_rfl) rfl (fun K hK => ?_)
      refine wp_append_sl encI_len (.tmp 21) (.tmp 23) 41 (by rfl) W.heap.size 45 i0 _ 48 Try.underlying41 HI.out HI0.out HI1.out HI2.out (by rfl) (by decide) (xs := [] ++ rs) (ys := [(.slice p2 x.ls.length q2, x)]) (by rfl) (by rfl) O3.out (Sl.one (S := fun _ => True) encI_len I3.out rfl trivial) one_row (by simp only [List.length_cons, List.length_nil, List.nil_append]; unfold maxLen; omega) (by simp only [List.length_cons, List.length_nil, List.nil_append]; omega) R3.out.below.size ?_
      intro v4 W4 o4 k4 t4
      have hR4 := R3.out.step k4 (fun k e => (O3.out.lt k e).1) hWl
      refine hK _ _ hR4 ?_
      clear hK K
      simp only [Act.put, List.setIfInBounds_toArray, List.set_cons_zero, List.set_cons_succ]
      ((first | (refine anyH_free (i := 6) (v := ?_) rfl (by kernel_rfl) (fun _ _ _ h => h) (Or.inl ⟨rfl, fun w' hS => ?_⟩) hR4 ?_; rotate_left; (skip; go_simp <;> with_reducible rfl)) | (refine anyH_free (i := 6) (v := undef) rfl (by kernel_rfl) (fun _ _ _ h => h) (Or.inr ⟨rfl, rfl⟩) hR4 ?_)); (simp only [Act.put, List.setIfInBounds_toArray, List.set_cons_zero, List.set_cons_succ])); ((first | (refine anyH_free (i := 7) (v := ?_) rfl (by kernel_rfl) (fun _ _ _ h => h) (Or.inl ⟨rfl, fun w' hS => ?_⟩) hR4 ?_; rotate_left; (skip; go_simp <;> with_reducible rfl)) | (refine anyH_free (i := 7) (v := undef) rfl (by kernel_rfl) (fun _ _ _ h => h) (Or.inr ⟨rfl, rfl⟩) hR4 ?_)); (simp only [Act.put, List.setIfInBounds_toArray, List.set_cons_zero, List.set_cons_succ]))
      refine anyH_done (by kernel_rfl) ?_
      have R4 := Lib.hid hR4
      have O4 := Lib.hid o4
      clear o4 k4 t4 hR4
      go_wp2_with fail
      go_ret2
      exact HE.out _ _ (rp_done HRS.out HLAB.out HL.out R4.out.below O4.out (fun k hk => hU k (Nat.le_trans (Nat.le_of_lt hWl) hk))) (below_then HB0.out R4.out.below)
    · skip
      go_simp
      have hR2 := R1.out.step (B := (W1.alloc (.cells #[.slice p2 x.ls.length q2, .int .i64 x.at_, .int .i64 x.vl, .int .i64 x.cost] 45))) (kept_of_below (F := fun _ => False) ((Below.refl _ W1).alloc (Nat.le_refl _) _)) (fun _ e => e.elim) hWl
      refine hK _ _ hR2 ?_
      clear hK K
      obtain ⟨b4, hb4⟩ : ∃ b, b = W1.heap.size := ⟨_, rfl⟩
      rw [← hb4]
      have hb4W : W.heap.size ≤ b4 := by rw [hb4]; exact R1.out.below.size
      refine any_gen (fun W2 => RP U w W rs (.slice p2 x.ls.length q2) x W2 ∧ b4 < W2.heap.size ∧ Box W2 b4 #[.slice p2 x.ls.length q2, .int .i64 x.at_, .int .i64 x.vl, .int .i64 x.cost] 45 ∧ W2.ownsRow W.heap.size 45 4 (.slice (some ⟨W.heap.size, 0, none⟩) 0 0) 0 []) ⟨hR2, by show b4 < (W1.alloc _).heap.size; rw [World.size_alloc, hb4]; omega, by rw [hb4]; exact Box.new W1 _ _, O1.out.alloc _⟩ ?_
      rintro W2 ⟨r2, l2, i2, o2⟩
      have R2 := Lib.hid r2
      have I2 := Lib.hid i2
      have O2 := Lib.hid o2
      have HB4 := Lib.hid hb4
      clear hb4 r2 i2 hR2 o2
      have hne : b4 ≠ W.heap.size := by have := HB4.out; omega
      refine anyH_sole (i := 2) rfl (by kernel_rfl) rfl (fun K hK => ?_)
      refine wp_append_sl encI_len (.tmp 19) (.tmp 20) 41 (by rfl) W.heap.size 45 i0 _ 48 Try.underlying41 HI.out HI0.out HI1.out HI2.out (by rfl) (by decide) (xs := []) (ys := rs) (by rfl) (by rfl) O2.out (HSL.out.below R2.out.below) (fun r hr => lab_one (HLAB.out r hr)) (by simp only [List.length_nil]; unfold maxLen; omega) (by simp only [List.length_nil]; omega) R2.out.below.size ?_
      intro v3 W3 o3 k3 t3
      have hR3 := R2.out.step k3 (fun k e => by simp only [Value.ownBlock, Option.some.injEq] at e; subst e; exact Nat.le_refl _) hWl
      refine hK _ _ hR3 ?_
      clear hK K
      simp only [Act.put, List.setIfInBounds_toArray, List.set_cons_zero, List.set_cons_succ]
      have R3 := Lib.hid hR3
      have O3 := Lib.hid o3
      have I3 := Lib.hid (I2.out.kept k3 (fun e => by simp only [Value.ownBlock, Option.some.injEq] at e; exact hne e.symm))
      clear o3 k3 t3 hR3
      refine anyH_sole (i := 5) rfl (by kernel_rfl) rfl (fun K hK => ?_)
      refine wp_append_sl encI_len (.tmp 21) (.tmp 23) 41 (by rfl) W.heap.size 45 i0 _ 48 Try.underlying41 HI.out HI0.out HI1.out HI2.out (by rfl) (by decide) (xs := [] ++ rs) (ys := [(.slice p2 x.ls.length q2, x)]) (by rfl) (by rfl) O3.out (Sl.one (S := fun _ => True) encI_len I3.out rfl trivial) one_row (by simp only [List.length_cons, List.length_nil, List.nil_append]; unfold maxLen; omega) (by simp only [List.length_cons, List.length_nil, List.nil_append]; omega) R3.out.below.size ?_
      intro v4 W4 o4 k4 t4
      have hR4 := R3.out.step k4 (fun k e => (O3.out.lt k e).1) hWl
      refine hK _ _ hR4 ?_
      clear hK K
      simp only [Act.put, List.setIfInBounds_toArray, List.set_cons_zero, List.set_cons_succ]
      ((first | (refine anyH_free (i := 6) (v := ?_) rfl (by kernel_rfl) (fun _ _ _ h => h) (Or.inl ⟨rfl, fun w' hS => ?_⟩) hR4 ?_; rotate_left; (skip; go_simp <;> with_reducible rfl)) | (refine anyH_free (i := 6) (v := undef) rfl (by kernel_rfl) (fun _ _ _ h => h) (Or.inr ⟨rfl, rfl⟩) hR4 ?_)); (simp only [Act.put, List.setIfInBounds_toArray, List.set_cons_zero, List.set_cons_succ])); ((first | (refine anyH_free (i := 7) (v := ?_) rfl (by kernel_rfl) (fun _ _ _ h => h) (Or.inl ⟨rfl, fun w' hS => ?_⟩) hR4 ?_; rotate_left; (skip; go_simp <;> with_reducible rfl)) | (refine anyH_free (i := 7) (v := undef) rfl (by kernel_rfl) (fun _ _ _ h => h) (Or.inr ⟨rfl, rfl⟩) hR4 ?_)); (simp only [Act.put, List.setIfInBounds_toArray, List.set_cons_zero, List.set_cons_succ]))
      refine anyH_done (by kernel_rfl) ?_
      have R4 := Lib.hid hR4
      have O4 := Lib.hid o4
      clear o4 k4 t4 hR4
      go_wp2_with fail
      go_ret2
      exact HE.out _ _ (rp_done HRS.out HLAB.out HL.out R4.out.below O4.out (fun k hk => hU k (Nat.le_trans (Nat.le_of_lt hWl) hk))) (below_then HB0.out R4.out.below)
  · skip
    go_simp
    have hR1 := RS.out.step (B := (W.alloc (.cells #[.slice p2 x.ls.length q2, .int .i64 x.at_, .int .i64 x.vl, .int .i64 x.cost] 45)).drew) (kept_of_below (F := fun _ => False) (((Below.refl _ W).alloc (Nat.le_refl _) _).drew)) (fun _ e => e.elim) hWl
    refine hK _ _ hR1 ?_
    clear hK K
    obtain ⟨b4, hb4⟩ : ∃ b, b = W.heap.size := ⟨_, rfl⟩
    rw [← hb4]
    have hb4W : W.heap.size ≤ b4 := by rw [hb4]; exact Nat.le_refl _
    refine any_gen (fun W1 => RP U w W rs (.slice p2 x.ls.length q2) x W1 ∧ b4 < W1.heap.size ∧ Box W1 b4 #[.slice p2 x.ls.length q2, .int .i64 x.at_, .int .i64 x.vl, .int .i64 x.cost] 45) ⟨hR1, by show b4 < (W.alloc _).heap.size; rw [World.size_alloc, hb4]; omega, by rw [hb4]; exact Box.new W _ _⟩ ?_
    rintro W1 ⟨r1, l1, i1⟩
    have R1 := Lib.hid r1
    have I1 := Lib.hid i1
    have HB4 := Lib.hid hb4
    clear hb4 r1 i1 hR1
    refine anyH_sole (i := 0) rfl (by kernel_rfl) rfl (fun K hK => ?_)
    go_simp
    have hR2 := R1.out.step (B := (W1.alloc (.cells #[] 45))) (kept_of_below (F := fun _ => False) ((Below.refl _ W1).alloc (Nat.le_refl _) _)) (fun _ e => e.elim) hWl
    refine hK _ _ hR2 ?_
    clear hK K
    refine any_gen (fun W2 => RP U w W rs (.slice p2 x.ls.length q2) x W2 ∧ W1.heap.size < W2.heap.size ∧ W2.ownsRow W.heap.size 45 4 (.slice (some ⟨W1.heap.size, 0, none⟩) 0 0) 0 [] ∧ Box W2 b4 #[.slice p2 x.ls.length q2, .int .i64 x.at_, .int .i64 x.vl, .int .i64 x.cost] 45) ⟨hR2, by show W1.heap.size < (W1.alloc _).heap.size; rw [World.size_alloc]; omega, owns_empty (W := W1) R1.out.below.size rfl, I1.out.alloc _⟩ ?_
    rintro W2 ⟨r2, l2, o2, i2⟩
    have R2 := Lib.hid r2
    have O2 := Lib.hid o2
    have I2 := Lib.hid i2
    clear r2 o2 hR2 i2
    refine anyH_sole (i := 2) rfl (by kernel_rfl) rfl (fun K hK => ?_)
    have hne : b4 ≠ W1.heap.size := by have := HB4.out; omega
    refine wp_append_sl encI_len (.tmp 19) (.tmp 20) 41 (by rfl) W.heap.size 45 i0 _ 48 Try.underlying41 HI.out HI0.out HI1.out HI2.out (by rfl) (by decide) (xs := []) (ys := rs) (by rfl) (by rfl) O2.out (HSL.out.below R2.out.below) (fun r hr => lab_one (HLAB.out r hr)) (by simp only [List.length_nil]; unfold maxLen; omega) (by simp only [List.length_nil]; omega) R2.out.below.size ?_
    intro v3 W3 o3 k3 t3
    have hR3 := R2.out.step k3 (fun k e => by simp only [Value.ownBlock, Option.some.injEq] at e; subst e; exact R1.out.below.size) hWl
    refine hK _ _ hR3 ?_
    clear hK K
    simp only [Act.put, List.setIfInBounds_toArray, List.set_cons_zero, List.set_cons_succ]
    have R3 := Lib.hid hR3
    have O3 := Lib.hid o3
    have I3 := Lib.hid (I2.out.kept k3 (fun e => by simp only [Value.ownBlock, Option.some.injEq] at e; exact hne e.symm))
    clear o3 k3 t3 hR3
    refine anyH_sole (i := 5) rfl (by kernel_rfl) rfl (fun K hK => ?_)
    refine wp_append_sl encI_len (.tmp 21) (.tmp 23) 41 (by rfl) W.heap.size 45 i0 _ 48 Try.underlying41 HI.out HI0.out HI1.out HI2.out (by rfl) (by decide) (xs := [] ++ rs) (ys := [(.slice p2 x.ls.length q2, x)]) (by rfl) (by rfl) O3.out (Sl.one (S := fun _ => True) encI_len I3.out rfl trivial) one_row (by simp only [List.length_cons, List.length_nil, List.nil_append]; unfold maxLen; omega) (by simp only [List.length_cons, List.length_nil, List.nil_append]; omega) R3.out.below.size ?_
    intro v4 W4 o4 k4 t4
    have hR4 := R3.out.step k4 (fun k e => (O3.out.lt k e).1) hWl
    refine hK _ _ hR4 ?_
    clear hK K
    simp only [Act.put, List.setIfInBounds_toArray, List.set_cons_zero, List.set_cons_succ]
    ((first | (refine anyH_free (i := 6) (v := ?_) rfl (by kernel_rfl) (fun _ _ _ h => h) (Or.inl ⟨rfl, fun w' hS => ?_⟩) hR4 ?_; rotate_left; (skip; go_simp <;> with_reducible rfl)) | (refine anyH_free (i := 6) (v := undef) rfl (by kernel_rfl) (fun _ _ _ h => h) (Or.inr ⟨rfl, rfl⟩) hR4 ?_)); (simp only [Act.put, List.setIfInBounds_toArray, List.set_cons_zero, List.set_cons_succ])); ((first | (refine anyH_free (i := 7) (v := ?_) rfl (by kernel_rfl) (fun _ _ _ h => h) (Or.inl ⟨rfl, fun w' hS => ?_⟩) hR4 ?_; rotate_left; (skip; go_simp <;> with_reducible rfl)) | (refine anyH_free (i := 7) (v := undef) rfl (by kernel_rfl) (fun _ _ _ h => h) (Or.inr ⟨rfl, rfl⟩) hR4 ?_)); (simp only [Act.put, List.setIfInBounds_toArray, List.set_cons_zero, List.set_cons_succ]))
    refine anyH_done (by kernel_rfl) ?_
    have R4 := Lib.hid hR4
    have O4 := Lib.hid o4
    clear o4 k4 t4 hR4
    go_wp2_with fail
    go_ret2
    exact HE.out _ _ (rp_done HRS.out HLAB.out HL.out R4.out.below O4.out (fun k hk => hU k (Nat.le_trans (Nat.le_of_lt hWl) hk))) (below_then HB0.out R4.out.below)
theorem refPush_any {U : Nat → Prop} {v lv : Value} {xs : List It} {x : It} {w : World} (h : Its U w v xs) (hl : Lb U w lv x.ls) (hU : ∀ k, w.heap.size ≤ k → U k) : Calls Try.prog 20 #[v, iv lv x] w (RefPushTo U xs x w) := by
  by_cases h1 : x.cost < 1 ∨ 256 < x.cost
  · exact refPush_arg h h1
  · by_cases h2 : xs.length < 8
    · exact refPush_ok h hl (by omega) (by omega) h2 hU
    · exact refPush_full h (by omega) (by omega) (by omega)
end Go.Proofs.Ythligipgmicgfaa
