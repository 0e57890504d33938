/- The document's answers: Twin, Twins, Push, Cost; spoil; Great. -/
import Derived.Test.YthligipgmicgfaaQCmp
namespace Go.Proofs.Ythligipgmicgfaa
open Go.RowKit
attribute [local go_sem] Oper.semAt_some

theorem owns_box {W : World} {base : Nat} {e : TypeId} {size : Nat} {v : Value} {n : Nat} {xs : List Value} (h : W.ownsRow base e size v n xs) (hp : 0 < n) : ∃ b c cs t, v = .slice (some ⟨b, 0, none⟩) n c ∧ Box W b cs t ∧ n * size ≤ cs.size := by
  rcases h.2 with ⟨rfl, h0⟩ | ⟨g, cap, cur, rfl, _, hg, h1, h2, h3, h4⟩
  · omega
  · exact ⟨g, cap, cur, e, rfl, hg, by rw [h3]; exact Nat.mul_le_mul_right _ h1⟩
theorem owns_empty {W : World} {cs : Array Value} {e : TypeId} {size base : Nat} (hb : base ≤ W.heap.size) (hc : cs = #[]) : (W.alloc (.cells cs e)).ownsRow base e size (.slice (some ⟨W.heap.size, 0, none⟩) 0 0) 0 [] := by
  subst hc
  exact ⟨by simp, .inr ⟨_, 0, #[], rfl, hb, heap_alloc_new W _, Nat.le_refl _, by simp, by simp, by simp⟩⟩
set_option maxRecDepth 100000 in
set_option maxHeartbeats 2000000 in
theorem Twin_any {S : Nat → Prop} {lv : Value} {x : It} {w : World} (h : Lb S w lv x.ls) :
    Calls Try.prog 19 #[iv lv x] w (ItemTo x w) := by
  obtain ⟨i0, hi, hi0, hi1, hi2⟩ := info_parts info_label
  have HI := Lib.hid hi
  have HI0 := Lib.hid hi0
  have HI1 := Lib.hid hi1
  have HI2 := Lib.hid hi2
  clear hi hi0 hi1 hi2
  have hb0 : Below w.heap.size w ((w.alloc (.cells #[lv, .int .i64 x.at_, .int .i64 x.vl, .int .i64 x.cost] 32)).alloc (.cells z4 45)) := ((Below.refl _ w).alloc (Nat.le_refl _) _).alloc (by simp) _
  have b0 := (Box.new w #[lv, .int .i64 x.at_, .int .i64 x.vl, .int .i64 x.cost] 32).alloc (.cells z4 45)
  have b1 := Box.new (w.alloc (.cells #[lv, .int .i64 x.at_, .int .i64 x.vl, .int .i64 x.cost] 32)) z4 45
  rw [World.size_alloc] at b1
  have hsz := h.sz
  have HL := Lib.hid h
  clear h
  obtain ⟨W, hW⟩ : ∃ W, (w.alloc (.cells #[lv, .int .i64 x.at_, .int .i64 x.vl, .int .i64 x.cost] 32)).alloc (.cells z4 45) = W := ⟨_, rfl⟩
  rw [hW] at hb0 b0 b1
  have HW := Lib.hid hW
  have hlt := b1.lt
  clear hW
  go_enter Try.func19, Try.ntmps19
  go_wp2_with fail
  rw [HW.out]
  have B0 := Lib.hid b0
  have B1 := Lib.hid b1
  have HB0 := Lib.hid hb0
  clear b0 b1 hb0
  refine anyH_start 10 (fun w' => Box w' w.heap.size #[lv, .int .i64 x.at_, .int .i64 x.vl, .int .i64 x.cost] 32) (by kernel_rfl) rfl ?_
  have hs0 : Box W.drew w.heap.size #[lv, .int .i64 x.at_, .int .i64 x.vl, .int .i64 x.cost] 32 := B0.out
  ((first | (refine anyH_free (i := 1) (v := ?_) rfl (by kernel_rfl) (fun _ _ _ h => h) (Or.inl ⟨rfl, fun w' hS => ?_⟩) hs0 ?_; rotate_left; (have c0 := hS.rd.1; go_simp <;> with_reducible rfl)) | (refine anyH_free (i := 1) (v := undef) rfl (by kernel_rfl) (fun _ _ _ h => h) (Or.inr ⟨rfl, rfl⟩) hs0 ?_)); (simp only [Act.put, List.setIfInBounds_toArray, List.set_cons_zero, List.set_cons_succ])); ((first | (refine anyH_free (i := 2) (v := ?_) rfl (by kernel_rfl) (fun _ _ _ h => h) (Or.inl ⟨rfl, fun w' hS => ?_⟩) hs0 ?_; rotate_left; (have c0 := hS.rd.1; go_simp <;> with_reducible rfl)) | (refine anyH_free (i := 2) (v := undef) rfl (by kernel_rfl) (fun _ _ _ h => h) (Or.inr ⟨rfl, rfl⟩) hs0 ?_)); (simp only [Act.put, List.setIfInBounds_toArray, List.set_cons_zero, List.set_cons_succ])); ((first | (refine anyH_free (i := 4) (v := ?_) rfl (by kernel_rfl) (fun _ _ _ h => h) (Or.inl ⟨rfl, fun w' hS => ?_⟩) hs0 ?_; rotate_left; (have c0 := hS.rd.1; go_simp <;> with_reducible rfl)) | (refine anyH_free (i := 4) (v := undef) rfl (by kernel_rfl) (fun _ _ _ h => h) (Or.inr ⟨rfl, rfl⟩) hs0 ?_)); (simp only [Act.put, List.setIfInBounds_toArray, List.set_cons_zero, List.set_cons_succ])); ((first | (refine anyH_free (i := 5) (v := ?_) rfl (by kernel_rfl) (fun _ _ _ h => h) (Or.inl ⟨rfl, fun w' hS => ?_⟩) hs0 ?_; rotate_left; (have c0 := hS.rd.1; go_simp <;> with_reducible rfl)) | (refine anyH_free (i := 5) (v := undef) rfl (by kernel_rfl) (fun _ _ _ h => h) (Or.inr ⟨rfl, rfl⟩) hs0 ?_)); (simp only [Act.put, List.setIfInBounds_toArray, List.set_cons_zero, List.set_cons_succ])); ((first | (refine anyH_free (i := 6) (v := ?_) rfl (by kernel_rfl) (fun _ _ _ h => h) (Or.inl ⟨rfl, fun w' hS => ?_⟩) hs0 ?_; rotate_left; (have c0 := hS.rd.1; go_simp <;> with_reducible rfl)) | (refine anyH_free (i := 6) (v := undef) rfl (by kernel_rfl) (fun _ _ _ h => h) (Or.inr ⟨rfl, rfl⟩) hs0 ?_)); (simp only [Act.put, List.setIfInBounds_toArray, List.set_cons_zero, List.set_cons_succ])); ((first | (refine anyH_free (i := 7) (v := ?_) rfl (by kernel_rfl) (fun _ _ _ h => h) (Or.inl ⟨rfl, fun w' hS => ?_⟩) hs0 ?_; rotate_left; (have c0 := hS.rd.1; go_simp <;> with_reducible rfl)) | (refine anyH_free (i := 7) (v := undef) rfl (by kernel_rfl) (fun _ _ _ h => h) (Or.inr ⟨rfl, rfl⟩) hs0 ?_)); (simp only [Act.put, List.setIfInBounds_toArray, List.set_cons_zero, List.set_cons_succ]))
  refine anyH_sole (i := 0) rfl (by kernel_rfl) rfl (fun K hK => ?_)
  go_simp
  refine hK _ _ (B0.out.alloc _) ?_
  clear hK K hs0
  refine any_gen (fun W1 => Below w.heap.size w W1 ∧ Box W1 w.heap.size #[lv, .int .i64 x.at_, .int .i64 x.vl, .int .i64 x.cost] 32 ∧ Box W1 (w.heap.size + 1) z4 45 ∧ w.heap.size + 1 + 1 ≤ W.heap.size ∧ W.heap.size < W1.heap.size ∧ W1.ownsRow (w.heap.size + 1 + 1) 79 2 (.slice (some ⟨W.heap.size, 0, none⟩) 0 0) 0 []) ⟨(HB0.out.alloc HB0.out.size _).drew, B0.out.alloc _, B1.out.alloc _, hlt, by show W.heap.size < (W.alloc _).heap.size; rw [World.size_alloc]; omega, owns_empty (W := W) hlt rfl⟩ ?_
  rintro W1 ⟨hb1, f0, f1, g0, g1, g2⟩
  have HB1 := Lib.hid hb1
  have F0 := Lib.hid f0
  have F1 := Lib.hid f1
  have G2 := Lib.hid g2
  clear f0 f1 g2 hb1
  refine anyH_sole (i := 3) rfl (by kernel_rfl) rfl (fun K hK => ?_)
  refine wp_append_sl encL_len (.tmp 3) (.tmp 5) 28 (by rfl) (w.heap.size + 1 + 1) 79 i0 _ 32 Try.underlying28 HI.out HI0.out HI1.out HI2.out (by rfl) (by decide) (xs := []) (ys := x.ls) (by rfl) (by rfl) G2.out (HL.out.below HB1.out).sl (fun l _ => encL_one l) (by simp only [List.length_nil]; unfold maxLen; omega) (by simp only [List.length_nil]; omega) (by omega) ?_
  intro v2 w2 hown hk2 hat
  have hs2 := F0.out.kept hk2 (by simp [Value.ownBlock]; omega)
  have hs3 := F1.out.kept hk2 (by simp [Value.ownBlock]; omega)
  have hb2 := HB1.out.trans (hk2.below (fun k e => by simp [Value.ownBlock] at e; omega) HB1.out.size)
  refine hK _ _ hs2 ?_
  clear hK K
  obtain ⟨p2, q2, rfl⟩ := owns_slice hown
  simp only [Act.put, List.setIfInBounds_toArray, List.set_cons_zero, List.set_cons_succ]
  ((first | (refine anyH_free (i := 8) (v := ?_) rfl (by kernel_rfl) (fun _ _ _ h => h) (Or.inl ⟨rfl, fun w' hS => ?_⟩) hs2 ?_; rotate_left; (skip; go_simp <;> with_reducible rfl)) | (refine anyH_free (i := 8) (v := undef) rfl (by kernel_rfl) (fun _ _ _ h => h) (Or.inr ⟨rfl, rfl⟩) hs2 ?_)); (simp only [Act.put, List.setIfInBounds_toArray, List.set_cons_zero, List.set_cons_succ]))
  refine anyH_sole (i := 9) rfl (by kernel_rfl) rfl (fun K hK => ?_)
  have z3 := hs3.rd.2
  have c3 := hs3.rd.1
  go_simp
  have hK2 : Kept (fun k => k = w.heap.size + 1) w2 (put4 w2 (w.heap.size + 1) (.slice p2 x.ls.length q2) (.int .i64 x.at_) (.int .i64 x.vl) (.int .i64 x.cost)) := (Kept.refl _ w2).put4 (by simp) _ _ _ _
  refine hK _ _ (hs2.far4 (by omega) _ _ _ _) ?_
  clear hK K
  refine anyH_done (by kernel_rfl) ?_
  go_wp2_with fail
  refine bodyPost_ret (v := iv (.slice p2 x.ls.length q2) x) ?_ rfl ?_
  · simp [results, Try.results19, go_sem, c3]
  · refine ⟨_, rfl, ⟨⟨?_, hsz⟩, fun hp => owns_box (owns_keep hown (fun k e => hK2.block k (hown.lt k e).2 (fun e' => by have := (hown.lt k e).1; omega))) hp⟩, hb2.trans (hK2.below (fun k e => by omega) hb2.size)⟩
    have := (Sl.owned encL_len hown).kept hK2 (fun k _ e => by have := (hown.lt k e).1; omega)
    exact this.mono (fun k _ e => by have := (hown.lt k e).1; omega)
theorem info_refitem : (Try.prog.info? 45).map (fun i => (i.zero, i.size, i.bytes)) = some (some (.agg z4), 4, 48) := by kernel_rfl
set_option maxRecDepth 100000 in
set_option maxHeartbeats 2000000 in
theorem Twins_any {S : Nat → Prop} {v : Value} {w : World} {xs : List It} (h : Its S w v xs) (hn : xs.length ≤ 100000) : Calls Try.prog 26 #[v] w (ItsTo 45 xs w) := by
  obtain ⟨p, c, rfl⟩ := h.slice
  obtain ⟨i0, hi, hi0, hi1, hi2⟩ := info_parts info_refitem
  have HI := Lib.hid hi
  have HI0 := Lib.hid hi0
  have HI1 := Lib.hid hi1
  have HI2 := Lib.hid hi2
  have HK := Lib.hid h
  clear h hi hi0 hi1 hi2
  go_enter Try.func26, Try.ntmps26
  go_wp2
  go_loopw [3, 4] (fun o i wr => ∃ (k : Nat) (qs : List (Value × It)), i = .int .i64 k ∧ k ≤ xs.length ∧ Rws (fun b => w.heap.size ≤ b ∧ o.ownBlock ≠ some b) wr w.heap.size 45 o (xs.take k) qs ∧ Below w.heap.size w wr) (fun _ i _ => xs.length - (intOf i).toNat)
  · exact ⟨0, [], rfl, by omega, Rws.none _ _ _ _, Below.refl _ _⟩
  obtain ⟨k, qs, rfl, hk, hR, hB⟩ := hrel
  by_cases hlt : k < xs.length
  · obtain ⟨x, hx⟩ : ∃ x, xs[k]? = some x := ⟨_, List.getElem?_eq_getElem hlt⟩
    obtain ⟨a, lv, rfl, hl, x0, x1, x2, x3⟩ := (HK.out.below hB).at hx
    obtain ⟨p1, q1, rfl⟩ := hl.slice
    have HTS := Lib.hid (take_snoc hx)
    have hkk : (k : Int) < (xs.length : Int) := by omega
    have HL := Lib.hid hl
    have HR := Lib.hid hR
    have hql : qs.length ≤ 100000 := by have := hR.len; rw [List.length_take] at this; omega
    clear hx hl hR
    go_wp2_with fail
    refine (Twin_any HL.out).mono ?_
    rintro e w1 ⟨l1, rfl, hl1, hb1⟩
    obtain ⟨p2, q2, rfl⟩ := hl1.lb.slice
    have hBs := hB.size
    have hs1 := hb1.size
    have hb2 : Below wr.heap.size wr (w1.alloc (.cells #[.slice p2 x.ls.length q2, .int .i64 x.at_, .int .i64 x.vl, .int .i64 x.cost] 45)) := hb1.alloc hb1.size _
    have hR2 := Lib.hid (HR.out.below hb2)
    have hL2 := Lib.hid ((hl1.below (W' := w1.alloc (.cells #[.slice p2 x.ls.length q2, .int .i64 x.at_, .int .i64 x.vl, .int .i64 x.cost] 45)) ((Below.refl _ w1).alloc (Nat.le_refl _) _)).mono (T := fun b => w.heap.size ≤ b ∧ u3.ownBlock ≠ some b) (fun b _ hb =>
      ⟨by omega, fun e => by have := (HR.out.own.lt b e).2; omega⟩))
    clear x0 x1 x2 x3
    go_wp2_with (at_builtin; refine wpList_append_sl encI_len rfl (.tmp 11) (.tmp 17) 41 rfl w.heap.size 45 i0 _ 48 Try.underlying41 HI.out HI0.out HI1.out HI2.out rfl (by decide) (v := u3) (xs := qs) (ys := [(.slice p2 x.ls.length q2, x)]) (by rfl) (by rfl) hR2.out.own (Sl.one (S := fun _ => True) encI_len (Box.new _ _ _) rfl trivial) one_row (by simp only [List.length_cons, List.length_nil]; unfold maxLen; omega) (by simp only [List.length_cons, List.length_nil]; omega) (by rw [World.size_alloc]; omega) ?_; intro v2 w2 hown hk2 hat)
    refine ⟨⟨k + 1, _, by simp, by omega, by rw [HTS.out]; exact hR2.out.snoc hL2.out hown hk2 hat, ?_⟩, by simp [intOf]; omega⟩
    exact (below_then hB hb2).trans (hk2.below (fun b e => by have := (HR.out.own.lt b e).1; omega) (below_then hB hb2).size)
  · obtain rfl : k = xs.length := by omega
    go_wp2
    go_ret
    rw [List.take_length] at hR
    exact ⟨_, qs, rfl, hR, hB⟩
set_option maxRecDepth 100000 in
set_option maxHeartbeats 2000000 in
theorem refCost_any {S : Nat → Prop} {v : Value} {w : World} {xs : List It} (h : Its S w v xs) (hn : xs.length ≤ 100000) (hc : ∀ x ∈ xs, 1 ≤ x.cost ∧ x.cost ≤ 256) : Calls Try.prog 24 #[v] w (Is (.int .i64 (costs xs)) w) := by
  obtain ⟨p, c, rfl⟩ := h.slice
  have HK := Lib.hid h
  have HC := Lib.hid hc
  clear h hc
  go_enter Try.func24, Try.ntmps24
  go_wp2
  go_loop [3, 4] (fun o i => ∃ k : Nat, o = .int .i64 (costs (xs.take k)) ∧ i = .int .i64 k ∧ k ≤ xs.length) (fun _ i => xs.length - (intOf i).toNat)
  · exact ⟨0, rfl, rfl, by omega⟩
  obtain ⟨k, rfl, rfl, hk⟩ := hrel
  by_cases hlt : k < xs.length
  · obtain ⟨x, hx⟩ : ∃ x, xs[k]? = some x := ⟨_, List.getElem?_eq_getElem hlt⟩
    obtain ⟨a, lv, rfl, hl, x0, x1, x2, x3⟩ := HK.out.at hx
    have hcx := HC.out x (List.mem_of_getElem? hx)
    have hct := costs_le (xs := xs.take k) (fun y hy => HC.out y (List.mem_of_mem_take hy))
    rw [List.length_take] at hct
    have hts : costs (xs.take (k + 1)) = costs (xs.take k) + x.cost := by rw [take_snoc hx, costs_snoc]
    obtain ⟨s0, hs0⟩ : ∃ s, costs (xs.take k) = s := ⟨_, rfl⟩
    rw [hs0] at hct hts ⊢
    have HTS := Lib.hid hts
    have hlo := hct.1
    have hhi : s0 ≤ 25600000 := by omega
    have hc1 := hcx.1
    have hc2 := hcx.2
    have hkk : (k : Int) < (xs.length : Int) := by omega
    clear hx hl hts hs0 hct hcx
    go_wp2
    exact ⟨⟨k + 1, by rw [HTS.out], by simp, by omega⟩, by simp [intOf]; omega⟩
  · obtain rfl : k = xs.length := by omega
    go_wp2
    go_ret
    exact ⟨rfl, rfl⟩
end Go.Proofs.Ythligipgmicgfaa
