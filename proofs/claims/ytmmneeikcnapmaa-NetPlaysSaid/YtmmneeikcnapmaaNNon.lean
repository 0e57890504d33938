/- A net that is nobody's; NetNone. -/
import Derived.Test.YtmmneeikcnapmaaNMid
namespace Go.Proofs.Ytmmneeikcnapmaa
open Go.RowKit
attribute [local go_sem] Oper.semAt_some

theorem msl_block {W : World} {b n : Nat} {t : TypeId} {rs : List Mr} (h : Box W b (rs.flatMap encM).toArray t) (hn : n = rs.length) (h1 : n ≤ 1000) (hm : ∀ r ∈ rs, Mo (fun _ => True) W r) : Msl (fun _ => True) W (.slice (some ⟨b, 0, none⟩) n n) (rs.map Mr.m) :=
  ⟨rs, rfl, Sl.full encM_len h hn (by unfold maxLen; omega) trivial, hm⟩
def NNo (W : World) (q : Value) : Prop := q = .pointer none ∨ ∃ p, q = .pointer (some ⟨p, 0, none⟩) ∧ Box W p #[.slice none 0 0, .bool false] 53
theorem NNo.below {W W' : World} {q : Value} (h : NNo W q) (hb : Below W.heap.size W W') : NNo W' q := by
  rcases h with h | ⟨p, h, h1⟩
  · exact .inl h
  · exact .inr ⟨p, h, h1.below hb⟩
theorem len_no {q : Value} {w : World} (h : NNo w q) : Calls Try.prog 12 #[q] w (Is (.int .i64 0) w) := by
  rcases h with rfl | ⟨p, rfl, h1⟩
  · go_enter Try.func12, Try.ntmps12
    go_wp2
    go_ret
    exact ⟨rfl, rfl⟩
  · obtain ⟨c, z⟩ := h1.rd
    clear h1
    go_enter Try.func12, Try.ntmps12
    go_wp2
    go_ret
    exact ⟨rfl, rfl⟩
set_option maxRecDepth 100000 in
set_option maxHeartbeats 1000000 in
theorem take_no {q : Value} {w : World} {i : Int} (h : NNo w q) : Calls Try.prog 15 #[q, .int .i64 i] w (Tells (.tuple #[mv zeroM, .bool false]) w) := by
  have hb0 : Below w.heap.size w (w.alloc (.cells zm 33)) := (Below.refl _ w).alloc (Nat.le_refl _) _
  have HL := Lib.hid (len_no (h.below hb0))
  have b0 := Box.new w zm 33
  clear h
  go_enter Try.func15, Try.ntmps15
  go_wp2_with fail
  refine HL.out.mono ?_
  rintro e w1 ⟨rfl, rfl⟩
  obtain ⟨c0, z0⟩ := b0.rd
  have HB0 := Lib.hid hb0
  clear HL b0 hb0
  go_wp2_with fail
  refine bodyPost_ret (v := .tuple #[mv zeroM, .bool false]) ?_ rfl ?_
  · simp [results, Try.results15, go_sem, zeroM]
  · exact ⟨rfl, HB0.out⟩
set_option maxRecDepth 100000 in
set_option maxHeartbeats 1000000 in
theorem send_no {q : Value} {w : World} {r : Mr} (h : NNo w q) : Calls Try.prog 14 #[q, mv r] w (Tells (.int .i64 1) w) := by
  have hb0 : Below w.heap.size w (w.alloc (.cells (mc r) 33)) := (Below.refl _ w).alloc (Nat.le_refl _) _
  have HB0 := Lib.hid hb0
  rcases h.below hb0 with rfl | ⟨p, rfl, h1⟩
  · clear h hb0
    go_enter Try.func14, Try.ntmps14
    go_wp2_with fail
    go_ret
    exact ⟨rfl, HB0.out⟩
  · have hp : p < w.heap.size := by
      rcases h with h | ⟨p', h, h2⟩
      · cases h
      · cases h
        exact h2.lt
    have hpl := h1.lt
    obtain ⟨c, z⟩ := h1.rd
    clear h hb0 h1
    go_enter Try.func14, Try.ntmps14
    go_wp2_with fail
    go_ret
    exact ⟨rfl, HB0.out⟩
set_option maxRecDepth 100000 in
set_option maxHeartbeats 1000000 in
theorem all_no {q : Value} {w : World} (h : NNo w q) : Calls Try.prog 21 #[q] w (Tells (.slice none 0 0) w) := by
  rcases h with rfl | ⟨p, rfl, h1⟩
  · go_enter Try.func21, Try.ntmps21
    go_wp2
    go_ret
    exact ⟨rfl, Below.refl _ _⟩
  · obtain ⟨c, z⟩ := h1.rd
    clear h1
    go_enter Try.func21, Try.ntmps21
    go_wp2_with fail
    go_loopw [3, 5, 13] (fun out _ iv_ wr => iv_ = .int .i64 0 ∧ out = .slice none 0 0 ∧ wr = w) (fun _ _ _ _ => 0)
    · exact ⟨rfl, rfl, rfl⟩
    obtain ⟨rfl, rfl, rfl⟩ := hrel
    go_wp2_with fail
    go_ret
    exact ⟨rfl, Below.refl _ _⟩
set_option maxRecDepth 100000 in
set_option maxHeartbeats 1000000 in
theorem netNone_any {S : Nat → Prop} {r : Mr} {i : Int} {w : World} (h : Mo S w r) : Calls Try.prog 6 #[mv r, .int .i64 i] w (Tells (.bool true) w) := by
  obtain ⟨kv, sv, m⟩ := r
  obtain ⟨p1, c1, e1, -, -⟩ := h.k.len
  obtain ⟨p2, c2, e2, -, -⟩ := h.s.len
  simp only at e1 e2
  subst e1 e2
  have hb0 : Below w.heap.size w (w.alloc (.cells (mc ⟨.slice p1 m.ks.length c1, .slice p2 m.ss.length c2, m⟩) 33)) := (Below.refl _ w).alloc (Nat.le_refl _) _
  have b0 := Box.new w (mc ⟨.slice p1 m.ks.length c1, .slice p2 m.ss.length c2, m⟩) 33
  have HM := Lib.hid (h.below hb0)
  have HB := Lib.hid hb0
  clear h
  go_enter Try.func6, Try.ntmps6
  go_wp2_with fail
  obtain ⟨W, hW⟩ : ∃ W, (w.alloc (.cells (mc ⟨.slice p1 m.ks.length c1, .slice p2 m.ss.length c2, m⟩) 33)) = W := ⟨_, rfl⟩
  rw [hW] at HM HB b0 hb0 ⊢
  clear hW
  obtain ⟨b, hb⟩ : ∃ b, b = w.heap.size := ⟨_, rfl⟩
  rw [← hb] at b0 ⊢
  clear hb hb0
  refine (big_any HM.out).mono ?_
  rintro e w1 ⟨bg, rfl, hf, hb⟩
  have HB1 := Lib.hid (below_then HB.out hb)
  have HM1 := Lib.hid (HM.out.below hb)
  have H0 := Lib.hid (b0.below hb)
  have hlt := b0.lt
  have hs1 := hb.size
  clear hb HB HM b0
  cases bg with
  | true =>
    clear hf
    go_wp2_with fail
    go_ret
    exact ⟨rfl, HB1.out⟩
  | false =>
    have HF := Lib.hid (hf rfl)
    clear hf
    have bn := Box.new w1 #[.slice none 0 0, .bool false] 53
    have bl := Box.new (w1.alloc (.cells #[.slice none 0 0, .bool false] 53)) #[.pointer none, nv w1.heap.size] 25
    rw [World.size_alloc] at bl
    have bn2 := bn.alloc (.cells #[.pointer none, nv w1.heap.size] 25)
    have hb2 : Below w1.heap.size w1 ((w1.alloc (.cells #[.slice none 0 0, .bool false] 53)).alloc (.cells #[.pointer none, nv w1.heap.size] 25)) := ((Below.refl _ w1).alloc (Nat.le_refl _) _).alloc (by simp) _
    go_wp2_with fail
    obtain ⟨W, hW⟩ : ∃ W, ((w1.alloc (.cells #[.slice none 0 0, .bool false] 53)).alloc (.cells #[.pointer none, nv w1.heap.size] 25)) = W := ⟨_, rfl⟩
    rw [hW] at bn2 bl hb2 ⊢
    clear hW bn
    obtain ⟨pn, hpn⟩ : ∃ pn, pn = w1.heap.size := ⟨_, rfl⟩
    rw [← hpn] at bn2 bl ⊢
    have H2 := Lib.hid (H0.out.below hb2)
    have HM2 := Lib.hid (HM1.out.below hb2)
    have HB2 := Lib.hid (below_then HB1.out hb2)
    have HN := Lib.hid bn2
    have HL := Lib.hid bl
    clear hpn hb2 bn2 bl H0 HM1 HB1
    go_loopw [6, 7, 8] (fun iv_ _ _ wr => ∃ k : Nat, iv_ = .int .i64 k ∧ k ≤ 2 ∧ Below W.heap.size W wr) (fun iv_ _ _ _ => 2 - (intOf iv_).toNat)
    · exact ⟨0, rfl, by omega, Below.refl _ _⟩
    obtain ⟨k, rfl, hk, hB⟩ := hrel
    by_cases hlt2 : k < 2
    · obtain ⟨q, hq, hno⟩ : ∃ q, (#[.pointer none, nv pn] : Array Value)[k]? = some q ∧ NNo W q := by
        rcases Nat.lt_or_ge k 1 with h | h
        · obtain rfl : k = 0 := by omega
          exact ⟨_, rfl, .inl rfl⟩
        · obtain rfl : k = 1 := by omega
          exact ⟨_, rfl, .inr ⟨pn, rfl, HN.out⟩⟩
      have hkk : (k : Int) < 2 := by omega
      have x0 : wr.cell? ⟨pn + 1, k, none⟩ = some q := by rw [(HL.out.below hB).rd.1, hq]
      have y0 := (H2.out.below hB).rd.1
      have HNO := Lib.hid (hno.below hB)
      have HM3 := Lib.hid (HM2.out.below hB)
      have HB3 := Lib.hid hB
      have H3 := Lib.hid (H2.out.below hB)
      clear hq hno hB
      go_wp2_with fail
      refine (take_no HNO.out).mono ?_
      rintro e w2 ⟨rfl, hb⟩
      have x1 := cell_below x0 hb
      have b7 := Box.new w2 zm 33
      have hb7 : Below w2.heap.size w2 (w2.alloc (.cells zm 33)) := (Below.refl _ w2).alloc (Nat.le_refl _) _
      have x2 := cell_below x1 hb7
      have hb8 := below_then hb hb7
      have HNO := Lib.hid (HNO.out.below hb8)
      have H4 := Lib.hid (H3.out.below hb8)
      have H7 := Lib.hid b7
      unfold zeroM
      go_wp2_with fail
      obtain ⟨W2, hW2⟩ : ∃ W2, (w2.alloc (.cells zm 33)) = W2 := ⟨_, rfl⟩
      rw [hW2] at x2 hb8 H7 H4 HNO ⊢
      have H8 := Lib.hid hb8
      clear hW2 x0 x1 y0 hb7 hb
      refine anyH_start 33 (fun w' => Below W2.heap.size W2 w') (by kernel_rfl) rfl ?_
      have hb0 : Below W2.heap.size W2 W2.drew := (Below.refl _ W2).drew
      ((first | (refine anyH_free (i := 0) (v := ?_) rfl (by kernel_rfl) (fun _ _ _ h => h) (Or.inl ⟨rfl, fun w' hS => ?_⟩) hb0 ?_; rotate_left; ((have x3 := cell_below x2 hS; have y3 := (H4.out.below hS).rd.1); go_simp <;> with_reducible rfl)) | (refine anyH_free (i := 0) (v := undef) rfl (by kernel_rfl) (fun _ _ _ h => h) (Or.inr ⟨rfl, rfl⟩) hb0 ?_)); (simp only [Act.put, List.setIfInBounds_toArray, List.set_cons_zero, List.set_cons_succ])); ((first | (refine anyH_free (i := 1) (v := ?_) rfl (by kernel_rfl) (fun _ _ _ h => h) (Or.inl ⟨rfl, fun w' hS => ?_⟩) hb0 ?_; rotate_left; ((have x3 := cell_below x2 hS; have y3 := (H4.out.below hS).rd.1); go_simp <;> with_reducible rfl)) | (refine anyH_free (i := 1) (v := undef) rfl (by kernel_rfl) (fun _ _ _ h => h) (Or.inr ⟨rfl, rfl⟩) hb0 ?_)); (simp only [Act.put, List.setIfInBounds_toArray, List.set_cons_zero, List.set_cons_succ])); ((first | (refine anyH_free (i := 2) (v := ?_) rfl (by kernel_rfl) (fun _ _ _ h => h) (Or.inl ⟨rfl, fun w' hS => ?_⟩) hb0 ?_; rotate_left; ((have x3 := cell_below x2 hS; have y3 := (H4.out.below hS).rd.1); go_simp <;> with_reducible rfl)) | (refine anyH_free (i := 2) (v := undef) rfl (by kernel_rfl) (fun _ _ _ h => h) (Or.inr ⟨rfl, rfl⟩) hb0 ?_)); (simp only [Act.put, List.setIfInBounds_toArray, List.set_cons_zero, List.set_cons_succ])); ((first | (refine anyH_free (i := 3) (v := ?_) rfl (by kernel_rfl) (fun _ _ _ h => h) (Or.inl ⟨rfl, fun w' hS => ?_⟩) hb0 ?_; rotate_left; ((have x3 := cell_below x2 hS; have y3 := (H4.out.below hS).rd.1); go_simp <;> with_reducible rfl)) | (refine anyH_free (i := 3) (v := undef) rfl (by kernel_rfl) (fun _ _ _ h => h) (Or.inr ⟨rfl, rfl⟩) hb0 ?_)); (simp only [Act.put, List.setIfInBounds_toArray, List.set_cons_zero, List.set_cons_succ])); ((first | (refine anyH_free (i := 4) (v := ?_) rfl (by kernel_rfl) (fun _ _ _ h => h) (Or.inl ⟨rfl, fun w' hS => ?_⟩) hb0 ?_; rotate_left; ((have x3 := cell_below x2 hS; have y3 := (H4.out.below hS).rd.1); go_simp <;> with_reducible rfl)) | (refine anyH_free (i := 4) (v := undef) rfl (by kernel_rfl) (fun _ _ _ h => h) (Or.inr ⟨rfl, rfl⟩) hb0 ?_)); (simp only [Act.put, List.setIfInBounds_toArray, List.set_cons_zero, List.set_cons_succ]))
      refine anyH_sole (i := 5) rfl (by kernel_rfl) rfl (fun K hK => ?_)
      go_simp
      refine (send_no (r := ⟨.slice p1 m.ks.length c1, .slice p2 m.ss.length c2, m⟩) (HNO.out.below hb0)).mono ?_
      rintro e w4 ⟨rfl, hb⟩
      have hb4 := below_then hb0 hb
      refine hK _ _ hb4 ?_
      clear hK K hb
      ((first | (refine anyH_free (i := 6) (v := ?_) rfl (by kernel_rfl) (fun _ _ _ h => h) (Or.inl ⟨rfl, fun w' hS => ?_⟩) hb4 ?_; rotate_left; ((have z3 := (H7.out.below hS).rd.1); go_simp <;> with_reducible rfl)) | (refine anyH_free (i := 6) (v := undef) rfl (by kernel_rfl) (fun _ _ _ h => h) (Or.inr ⟨rfl, rfl⟩) hb4 ?_)); (simp only [Act.put, List.setIfInBounds_toArray, List.set_cons_zero, List.set_cons_succ])); ((first | (refine anyH_free (i := 7) (v := ?_) rfl (by kernel_rfl) (fun _ _ _ h => h) (Or.inl ⟨rfl, fun w' hS => ?_⟩) hb4 ?_; rotate_left; ((have z3 := (H7.out.below hS).rd.1); go_simp <;> with_reducible rfl)) | (refine anyH_free (i := 7) (v := undef) rfl (by kernel_rfl) (fun _ _ _ h => h) (Or.inr ⟨rfl, rfl⟩) hb4 ?_)); (simp only [Act.put, List.setIfInBounds_toArray, List.set_cons_zero, List.set_cons_succ])); ((first | (refine anyH_free (i := 8) (v := ?_) rfl (by kernel_rfl) (fun _ _ _ h => h) (Or.inl ⟨rfl, fun w' hS => ?_⟩) hb4 ?_; rotate_left; ((have z3 := (H7.out.below hS).rd.1); go_simp <;> with_reducible rfl)) | (refine anyH_free (i := 8) (v := undef) rfl (by kernel_rfl) (fun _ _ _ h => h) (Or.inr ⟨rfl, rfl⟩) hb4 ?_)); (simp only [Act.put, List.setIfInBounds_toArray, List.set_cons_zero, List.set_cons_succ])); ((first | (refine anyH_free (i := 9) (v := ?_) rfl (by kernel_rfl) (fun _ _ _ h => h) (Or.inl ⟨rfl, fun w' hS => ?_⟩) hb4 ?_; rotate_left; ((have z3 := (H7.out.below hS).rd.1); go_simp <;> with_reducible rfl)) | (refine anyH_free (i := 9) (v := undef) rfl (by kernel_rfl) (fun _ _ _ h => h) (Or.inr ⟨rfl, rfl⟩) hb4 ?_)); (simp only [Act.put, List.setIfInBounds_toArray, List.set_cons_zero, List.set_cons_succ])); ((first | (refine anyH_free (i := 10) (v := ?_) rfl (by kernel_rfl) (fun _ _ _ h => h) (Or.inl ⟨rfl, fun w' hS => ?_⟩) hb4 ?_; rotate_left; ((have z3 := (H7.out.below hS).rd.1); go_simp <;> with_reducible rfl)) | (refine anyH_free (i := 10) (v := undef) rfl (by kernel_rfl) (fun _ _ _ h => h) (Or.inr ⟨rfl, rfl⟩) hb4 ?_)); (simp only [Act.put, List.setIfInBounds_toArray, List.set_cons_zero, List.set_cons_succ])); ((first | (refine anyH_free (i := 11) (v := ?_) rfl (by kernel_rfl) (fun _ _ _ h => h) (Or.inl ⟨rfl, fun w' hS => ?_⟩) hb4 ?_; rotate_left; ((have z3 := (H7.out.below hS).rd.1); go_simp <;> with_reducible rfl)) | (refine anyH_free (i := 11) (v := undef) rfl (by kernel_rfl) (fun _ _ _ h => h) (Or.inr ⟨rfl, rfl⟩) hb4 ?_)); (simp only [Act.put, List.setIfInBounds_toArray, List.set_cons_zero, List.set_cons_succ])); ((first | (refine anyH_free (i := 12) (v := ?_) rfl (by kernel_rfl) (fun _ _ _ h => h) (Or.inl ⟨rfl, fun w' hS => ?_⟩) hb4 ?_; rotate_left; ((have z3 := (H7.out.below hS).rd.1); go_simp <;> with_reducible rfl)) | (refine anyH_free (i := 12) (v := undef) rfl (by kernel_rfl) (fun _ _ _ h => h) (Or.inr ⟨rfl, rfl⟩) hb4 ?_)); (simp only [Act.put, List.setIfInBounds_toArray, List.set_cons_zero, List.set_cons_succ]))
      refine anyH_sole (i := 13) rfl (by kernel_rfl) rfl (fun K hK => ?_)
      go_simp
      refine (same_any (x := zeroM) (y := zeroM) (Mo.zero (fun _ => True) _) (Mo.zero (fun _ => True) _) rfl ⟨by simp [zeroM], by simp [zeroM]⟩).mono ?_
      rintro e w5 ⟨rfl, hb⟩
      have hb5 := below_then hb4 hb
      refine hK _ _ hb5 ?_
      clear hK K hb
      ((first | (refine anyH_free (i := 14) (v := ?_) rfl (by kernel_rfl) (fun _ _ _ h => h) (Or.inl ⟨rfl, fun w' hS => ?_⟩) hb5 ?_; rotate_left; ((have x3 := cell_below x2 hS); go_simp <;> with_reducible rfl)) | (refine anyH_free (i := 14) (v := undef) rfl (by kernel_rfl) (fun _ _ _ h => h) (Or.inr ⟨rfl, rfl⟩) hb5 ?_)); (simp only [Act.put, List.setIfInBounds_toArray, List.set_cons_zero, List.set_cons_succ])); ((first | (refine anyH_free (i := 15) (v := ?_) rfl (by kernel_rfl) (fun _ _ _ h => h) (Or.inl ⟨rfl, fun w' hS => ?_⟩) hb5 ?_; rotate_left; ((have x3 := cell_below x2 hS); go_simp <;> with_reducible rfl)) | (refine anyH_free (i := 15) (v := undef) rfl (by kernel_rfl) (fun _ _ _ h => h) (Or.inr ⟨rfl, rfl⟩) hb5 ?_)); (simp only [Act.put, List.setIfInBounds_toArray, List.set_cons_zero, List.set_cons_succ])); ((first | (refine anyH_free (i := 16) (v := ?_) rfl (by kernel_rfl) (fun _ _ _ h => h) (Or.inl ⟨rfl, fun w' hS => ?_⟩) hb5 ?_; rotate_left; ((have x3 := cell_below x2 hS); go_simp <;> with_reducible rfl)) | (refine anyH_free (i := 16) (v := undef) rfl (by kernel_rfl) (fun _ _ _ h => h) (Or.inr ⟨rfl, rfl⟩) hb5 ?_)); (simp only [Act.put, List.setIfInBounds_toArray, List.set_cons_zero, List.set_cons_succ])); ((first | (refine anyH_free (i := 17) (v := ?_) rfl (by kernel_rfl) (fun _ _ _ h => h) (Or.inl ⟨rfl, fun w' hS => ?_⟩) hb5 ?_; rotate_left; ((have x3 := cell_below x2 hS); go_simp <;> with_reducible rfl)) | (refine anyH_free (i := 17) (v := undef) rfl (by kernel_rfl) (fun _ _ _ h => h) (Or.inr ⟨rfl, rfl⟩) hb5 ?_)); (simp only [Act.put, List.setIfInBounds_toArray, List.set_cons_zero, List.set_cons_succ])); ((first | (refine anyH_free (i := 18) (v := ?_) rfl (by kernel_rfl) (fun _ _ _ h => h) (Or.inl ⟨rfl, fun w' hS => ?_⟩) hb5 ?_; rotate_left; ((have x3 := cell_below x2 hS); go_simp <;> with_reducible rfl)) | (refine anyH_free (i := 18) (v := undef) rfl (by kernel_rfl) (fun _ _ _ h => h) (Or.inr ⟨rfl, rfl⟩) hb5 ?_)); (simp only [Act.put, List.setIfInBounds_toArray, List.set_cons_zero, List.set_cons_succ])); ((first | (refine anyH_free (i := 19) (v := ?_) rfl (by kernel_rfl) (fun _ _ _ h => h) (Or.inl ⟨rfl, fun w' hS => ?_⟩) hb5 ?_; rotate_left; ((have x3 := cell_below x2 hS); go_simp <;> with_reducible rfl)) | (refine anyH_free (i := 19) (v := undef) rfl (by kernel_rfl) (fun _ _ _ h => h) (Or.inr ⟨rfl, rfl⟩) hb5 ?_)); (simp only [Act.put, List.setIfInBounds_toArray, List.set_cons_zero, List.set_cons_succ])); ((first | (refine anyH_free (i := 20) (v := ?_) rfl (by kernel_rfl) (fun _ _ _ h => h) (Or.inl ⟨rfl, fun w' hS => ?_⟩) hb5 ?_; rotate_left; ((have x3 := cell_below x2 hS); go_simp <;> with_reducible rfl)) | (refine anyH_free (i := 20) (v := undef) rfl (by kernel_rfl) (fun _ _ _ h => h) (Or.inr ⟨rfl, rfl⟩) hb5 ?_)); (simp only [Act.put, List.setIfInBounds_toArray, List.set_cons_zero, List.set_cons_succ]))
      refine anyH_sole (i := 21) rfl (by kernel_rfl) rfl (fun K hK => ?_)
      go_simp
      refine (len_no (HNO.out.below hb5)).mono ?_
      rintro e w6 ⟨rfl, rfl⟩
      refine hK _ _ hb5 ?_
      clear hK K
      ((first | (refine anyH_free (i := 22) (v := ?_) rfl (by kernel_rfl) (fun _ _ _ h => h) (Or.inl ⟨rfl, fun w' hS => ?_⟩) hb5 ?_; rotate_left; ((have x3 := cell_below x2 hS); go_simp <;> with_reducible rfl)) | (refine anyH_free (i := 22) (v := undef) rfl (by kernel_rfl) (fun _ _ _ h => h) (Or.inr ⟨rfl, rfl⟩) hb5 ?_)); (simp only [Act.put, List.setIfInBounds_toArray, List.set_cons_zero, List.set_cons_succ])); ((first | (refine anyH_free (i := 23) (v := ?_) rfl (by kernel_rfl) (fun _ _ _ h => h) (Or.inl ⟨rfl, fun w' hS => ?_⟩) hb5 ?_; rotate_left; ((have x3 := cell_below x2 hS); go_simp <;> with_reducible rfl)) | (refine anyH_free (i := 23) (v := undef) rfl (by kernel_rfl) (fun _ _ _ h => h) (Or.inr ⟨rfl, rfl⟩) hb5 ?_)); (simp only [Act.put, List.setIfInBounds_toArray, List.set_cons_zero, List.set_cons_succ])); ((first | (refine anyH_free (i := 24) (v := ?_) rfl (by kernel_rfl) (fun _ _ _ h => h) (Or.inl ⟨rfl, fun w' hS => ?_⟩) hb5 ?_; rotate_left; ((have x3 := cell_below x2 hS); go_simp <;> with_reducible rfl)) | (refine anyH_free (i := 24) (v := undef) rfl (by kernel_rfl) (fun _ _ _ h => h) (Or.inr ⟨rfl, rfl⟩) hb5 ?_)); (simp only [Act.put, List.setIfInBounds_toArray, List.set_cons_zero, List.set_cons_succ])); ((first | (refine anyH_free (i := 25) (v := ?_) rfl (by kernel_rfl) (fun _ _ _ h => h) (Or.inl ⟨rfl, fun w' hS => ?_⟩) hb5 ?_; rotate_left; ((have x3 := cell_below x2 hS); go_simp <;> with_reducible rfl)) | (refine anyH_free (i := 25) (v := undef) rfl (by kernel_rfl) (fun _ _ _ h => h) (Or.inr ⟨rfl, rfl⟩) hb5 ?_)); (simp only [Act.put, List.setIfInBounds_toArray, List.set_cons_zero, List.set_cons_succ])); ((first | (refine anyH_free (i := 26) (v := ?_) rfl (by kernel_rfl) (fun _ _ _ h => h) (Or.inl ⟨rfl, fun w' hS => ?_⟩) hb5 ?_; rotate_left; ((have x3 := cell_below x2 hS); go_simp <;> with_reducible rfl)) | (refine anyH_free (i := 26) (v := undef) rfl (by kernel_rfl) (fun _ _ _ h => h) (Or.inr ⟨rfl, rfl⟩) hb5 ?_)); (simp only [Act.put, List.setIfInBounds_toArray, List.set_cons_zero, List.set_cons_succ])); ((first | (refine anyH_free (i := 27) (v := ?_) rfl (by kernel_rfl) (fun _ _ _ h => h) (Or.inl ⟨rfl, fun w' hS => ?_⟩) hb5 ?_; rotate_left; ((have x3 := cell_below x2 hS); go_simp <;> with_reducible rfl)) | (refine anyH_free (i := 27) (v := undef) rfl (by kernel_rfl) (fun _ _ _ h => h) (Or.inr ⟨rfl, rfl⟩) hb5 ?_)); (simp only [Act.put, List.setIfInBounds_toArray, List.set_cons_zero, List.set_cons_succ])); ((first | (refine anyH_free (i := 28) (v := ?_) rfl (by kernel_rfl) (fun _ _ _ h => h) (Or.inl ⟨rfl, fun w' hS => ?_⟩) hb5 ?_; rotate_left; ((have x3 := cell_below x2 hS); go_simp <;> with_reducible rfl)) | (refine anyH_free (i := 28) (v := undef) rfl (by kernel_rfl) (fun _ _ _ h => h) (Or.inr ⟨rfl, rfl⟩) hb5 ?_)); (simp only [Act.put, List.setIfInBounds_toArray, List.set_cons_zero, List.set_cons_succ]))
      refine anyH_sole (i := 29) rfl (by kernel_rfl) rfl (fun K hK => ?_)
      go_simp
      refine (all_no (HNO.out.below hb5)).mono ?_
      rintro e w7 ⟨rfl, hb⟩
      have hb7 := below_then hb5 hb
      refine hK _ _ hb7 ?_
      clear hK K hb
      ((first | (refine anyH_free (i := 30) (v := ?_) rfl (by kernel_rfl) (fun _ _ _ h => h) (Or.inl ⟨rfl, fun w' hS => ?_⟩) hb7 ?_; rotate_left; (skip; go_simp <;> with_reducible rfl)) | (refine anyH_free (i := 30) (v := undef) rfl (by kernel_rfl) (fun _ _ _ h => h) (Or.inr ⟨rfl, rfl⟩) hb7 ?_)); (simp only [Act.put, List.setIfInBounds_toArray, List.set_cons_zero, List.set_cons_succ])); ((first | (refine anyH_free (i := 31) (v := ?_) rfl (by kernel_rfl) (fun _ _ _ h => h) (Or.inl ⟨rfl, fun w' hS => ?_⟩) hb7 ?_; rotate_left; (skip; go_simp <;> with_reducible rfl)) | (refine anyH_free (i := 31) (v := undef) rfl (by kernel_rfl) (fun _ _ _ h => h) (Or.inr ⟨rfl, rfl⟩) hb7 ?_)); (simp only [Act.put, List.setIfInBounds_toArray, List.set_cons_zero, List.set_cons_succ])); ((first | (refine anyH_free (i := 32) (v := ?_) rfl (by kernel_rfl) (fun _ _ _ h => h) (Or.inl ⟨rfl, fun w' hS => ?_⟩) hb7 ?_; rotate_left; (skip; go_simp <;> with_reducible rfl)) | (refine anyH_free (i := 32) (v := undef) rfl (by kernel_rfl) (fun _ _ _ h => h) (Or.inr ⟨rfl, rfl⟩) hb7 ?_)); (simp only [Act.put, List.setIfInBounds_toArray, List.set_cons_zero, List.set_cons_succ]))
      refine anyH_done (by kernel_rfl) ?_
      have HB8 := Lib.hid (below_then HB3.out (below_then hb8 hb7))
      clear hb0 hb4 hb5 hb7 x2
      go_wp2_with fail
      exact ⟨⟨k + 1, by simp, by omega, HB8.out⟩, by simp [intOf]; omega⟩
    · obtain rfl : k = 2 := by omega
      have y0 := (H2.out.below hB).rd.1
      have HB3 := Lib.hid (below_then HB2.out hB)
      have HM3 := Lib.hid (HM2.out.below hB)
      have b9 := Box.new wr #[.int .u32 m.rule, .string m.route, .int .i64 m.at_, .slice p1 m.ks.length c1, .slice p2 m.ss.length c2, .int .u32 m.rule, .string m.route, .int .i64 m.at_, .slice p1 m.ks.length c1, .slice p2 m.ss.length c2] 33
      have hb9 : Below wr.heap.size wr (wr.alloc (.cells #[.int .u32 m.rule, .string m.route, .int .i64 m.at_, .slice p1 m.ks.length c1, .slice p2 m.ss.length c2, .int .u32 m.rule, .string m.route, .int .i64 m.at_, .slice p1 m.ks.length c1, .slice p2 m.ss.length c2] 33)) := (Below.refl _ wr).alloc (Nat.le_refl _) _
      have HX : Hid (Msl (fun _ => True) (wr.alloc (.cells #[.int .u32 m.rule, .string m.route, .int .i64 m.at_, .slice p1 m.ks.length c1, .slice p2 m.ss.length c2, .int .u32 m.rule, .string m.route, .int .i64 m.at_, .slice p1 m.ks.length c1, .slice p2 m.ss.length c2] 33)) (.slice (some ⟨wr.heap.size, 0, none⟩) 2 2) [m, m]) :=
        Lib.hid (msl_block (rs := [⟨.slice p1 m.ks.length c1, .slice p2 m.ss.length c2, m⟩, ⟨.slice p1 m.ks.length c1, .slice p2 m.ss.length c2, m⟩]) b9 rfl (by decide) (fun r hr => by simp at hr; subst hr; exact (HM3.out.below hb9).mono (fun _ _ _ => trivial)))
      have HB4 := Lib.hid (below_then HB3.out hb9)
      clear b9 hb9 hB
      go_wp2_with fail
      obtain ⟨W9, hW9⟩ : ∃ W9, (wr.alloc (.cells #[.int .u32 m.rule, .string m.route, .int .i64 m.at_, .slice p1 m.ks.length c1, .slice p2 m.ss.length c2, .int .u32 m.rule, .string m.route, .int .i64 m.at_, .slice p1 m.ks.length c1, .slice p2 m.ss.length c2] 33)) = W9 := ⟨_, rfl⟩
      rw [hW9] at HX HB4 ⊢
      clear hW9
      refine (new_m HX.out (fun x hx => by simp at hx; subst hx; exact HF.out) (by simp)).mono ?_
      rintro e w2 ⟨rfl, hN, hb⟩
      have HL2 := Lib.hid (len_m hN)
      have HB5 := Lib.hid (below_then HB4.out hb)
      clear hN hb
      go_wp2_with fail
      refine HL2.out.mono ?_
      rintro e w3 ⟨rfl, rfl⟩
      go_wp2_with fail
      go_ret
      exact ⟨rfl, HB5.out⟩
end Go.Proofs.Ytmmneeikcnapmaa
