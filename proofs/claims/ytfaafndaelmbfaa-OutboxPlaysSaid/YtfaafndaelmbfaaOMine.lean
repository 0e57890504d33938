/- mine -/
import Derived.Test.YtfaafndaelmbfaaOSiP
namespace Go.Proofs.Ytfaafndaelmbfaa
open Go.RowKit
attribute [local go_sem] Oper.semAt_some

theorem cells_M {W : World} {a : Addr} {xs : List Mr} {k : Nat} {x : Mr} (h : RowAt W a 5 encM xs) (hx : xs[k]? = some x) :
    W.cell? (a.add (k * 5)) = some (.int .u32 x.m.rule) ∧ W.cell? ⟨(a.add (k * 5)).block, (a.add (k * 5)).off + 1, none⟩ = some (.string x.m.route) ∧ W.cell? ⟨(a.add (k * 5)).block, (a.add (k * 5)).off + 2, none⟩ = some (.int .i64 x.m.at_) ∧ W.cell? ⟨(a.add (k * 5)).block, (a.add (k * 5)).off + 3, none⟩ = some x.kv ∧ W.cell? ⟨(a.add (k * 5)).block, (a.add (k * 5)).off + 4, none⟩ = some x.sv := by
  have x0 := h k _ hx 0 _ rfl
  rw [Addr.add_zero'] at x0
  exact ⟨x0, h k _ hx 1 _ rfl, h k _ hx 2 _ rfl, h k _ hx 3 _ rfl, h k _ hx 4 _ rfl⟩
theorem cnt_snoc (ms : List Ms) (m : Ms) (r i : Int) : cnt (ms ++ [m]) r i = cnt ms r i + if keyM r i m then 1 else 0 := by
  unfold cnt
  rw [List.filter_append, List.length_append]
  congr 1
  cases h : keyM r i m <;> simp [h]
set_option maxRecDepth 100000 in
set_option maxHeartbeats 2000000 in
theorem mine_any {S : Nat → Prop} {v : Value} {rs : List Mr} {r : Mr} {w : World} (h : Sl S w v 5 encM rs) (hn : rs.length ≤ 1000) : Calls Try.prog 16 #[v, mv r] w (Tells (.int .i64 (cnt (rs.map Mr.m) r.m.rule r.m.at_)) w) := by
  obtain ⟨p, c, rfl, -, -⟩ := h.len
  obtain ⟨kv, sv, m⟩ := r
  have hb0 : Below w.heap.size w (w.alloc (.cells (mc ⟨kv, sv, m⟩) 31)) := (Below.refl _ w).alloc (Nat.le_refl _) _
  have HX := Lib.hid (Box.new w (mc ⟨kv, sv, m⟩) 31)
  have HL := Lib.hid (h.below hb0)
  have HB0 := Lib.hid hb0
  clear h hb0
  go_enter Try.func16, Try.ntmps16
  go_wp2_with fail
  obtain ⟨W0, hW0⟩ : ∃ W0, (w.alloc (.cells (mc ⟨kv, sv, m⟩) 31)) = W0 := ⟨_, rfl⟩
  rw [hW0] at HX HL HB0 ⊢
  clear hW0
  go_loopw [5, 6] (fun n_ iv_ wr => ∃ k : Nat, iv_ = .int .i64 k ∧ n_ = .int .i64 (cnt ((rs.take k).map Mr.m) m.rule m.at_) ∧ k ≤ rs.length ∧ Below W0.heap.size W0 wr) (fun _ iv_ _ => rs.length - (intOf iv_).toNat)
  · exact ⟨0, rfl, rfl, by omega, Below.refl _ _⟩
  obtain ⟨k, rfl, rfl, hk, hB⟩ := hrel
  have HB := Lib.hid hB
  have hcl : cnt ((rs.take k).map Mr.m) m.rule m.at_ ≤ k := by
    unfold cnt
    refine Nat.le_trans (List.length_filter_le _ _) ?_
    rw [List.length_map, List.length_take]
    omega
  clear hB
  by_cases hlt : k < rs.length
  · obtain ⟨⟨kv2, sv2, m2⟩, hx⟩ : ∃ x, rs[k]? = some x := ⟨_, List.getElem?_eq_getElem hlt⟩
    obtain ⟨a, rfl, -, -, hrow⟩ := (HL.out.below HB.out).at hx
    obtain ⟨x0, x1, x2, x3, x4⟩ := cells_M hrow hx
    have d0 := (HX.out.below HB.out).rd.1
    have hkk : (k : Int) < (rs.length : Int) := by omega
    have hcs : cnt ((rs.take (k + 1)).map Mr.m) m.rule m.at_ = cnt ((rs.take k).map Mr.m) m.rule m.at_ + if keyM m.rule m.at_ m2 then 1 else 0 := by
      rw [take_snoc' hx, List.map_append]
      exact cnt_snoc _ _ _ _
    have HCS := Lib.hid hcs
    have hb0 : Below wr.heap.size wr wr.drew := (Below.refl _ wr).drew
    have HXB := Lib.hid (HX.out.below HB.out)
    obtain ⟨N, hN⟩ : ∃ N, cnt ((rs.take k).map Mr.m) m.rule m.at_ = N := ⟨_, rfl⟩
    rw [hN] at hcl HCS ⊢
    clear hrow hx hcs hN d0
    by_cases h1 : m2.rule = m.rule
    · by_cases h2 : m2.at_ = m.at_
      · have hr1 : (m2.rule == m.rule) = true := by rw [beq_iff_eq]; exact h1
        have hr2 : (m2.at_ == m.at_) = true := by rw [beq_iff_eq]; exact h2
        have HF : Hid (keyM m.rule m.at_ m2 = true) := Lib.hid (by unfold keyM; simp [h1, h2])
        have hw1 : wrap64 ((N : Int) + 1) = (N : Int) + 1 := IntWalk.wrap64_in _ ⟨by omega, by omega⟩
        clear h1 h2
        go_wp2_with fail
        refine wp_region_ordH [0, 1, 2, 3, 4, 5, 6, 7, 8, 9, 10, 11, 12, 13, 14, 15, 16, 17] (fun w' => Below wr.heap.size wr w') (by kernel_rfl) (by kernel_rfl) ?_
        iterate 18 ((first | (refine ordH_free (v := ?_) rfl (by kernel_rfl) (fun _ _ _ h => h) (Or.inl ⟨rfl, fun w' hS => ?_⟩) hb0 ?_; rotate_left; (have x0 := cell_below x0 hS; have x2 := cell_below x2 hS; have d0 := (HXB.out.below hS).rd.1; go_simp <;> with_reducible rfl)) | (refine ordH_free (v := undef) rfl (by kernel_rfl) (fun _ _ _ h => h) (Or.inr ⟨rfl, rfl⟩) hb0 ?_)); (simp only [Act.put, List.setIfInBounds_toArray, List.set_cons_zero, List.set_cons_succ]))
        refine ⟨by kernel_rfl, ?_⟩
        have HB1 := Lib.hid (below_then HB.out hb0)
        clear x0 x1 x2 x3 x4 hb0
        go_wp2_with fail
        exact ⟨⟨k + 1, by simp, by rw [HCS.out, HF.out]; rfl, by omega, HB1.out⟩, by simp [intOf]; omega⟩
      · have hr1 : (m2.rule == m.rule) = true := by rw [beq_iff_eq]; exact h1
        have hr2 : (m2.at_ == m.at_) = false := by rw [beq_eq_false_iff_ne]; exact h2
        have HF : Hid (keyM m.rule m.at_ m2 = false) := Lib.hid (by unfold keyM; simp [h2])
        clear h1 h2
        go_wp2_with fail
        refine wp_region_ordH [0, 1, 2, 3, 4, 5, 6, 7, 8, 9, 10, 11, 12, 13, 14, 15, 16, 17] (fun w' => Below wr.heap.size wr w') (by kernel_rfl) (by kernel_rfl) ?_
        iterate 18 ((first | (refine ordH_free (v := ?_) rfl (by kernel_rfl) (fun _ _ _ h => h) (Or.inl ⟨rfl, fun w' hS => ?_⟩) hb0 ?_; rotate_left; (have x0 := cell_below x0 hS; have x2 := cell_below x2 hS; have d0 := (HXB.out.below hS).rd.1; go_simp <;> with_reducible rfl)) | (refine ordH_free (v := undef) rfl (by kernel_rfl) (fun _ _ _ h => h) (Or.inr ⟨rfl, rfl⟩) hb0 ?_)); (simp only [Act.put, List.setIfInBounds_toArray, List.set_cons_zero, List.set_cons_succ]))
        refine ⟨by kernel_rfl, ?_⟩
        have HB1 := Lib.hid (below_then HB.out hb0)
        clear x0 x1 x2 x3 x4 hb0
        go_wp2_with fail
        exact ⟨⟨k + 1, by simp, by rw [HCS.out, HF.out]; rfl, by omega, HB1.out⟩, by simp [intOf]; omega⟩
    · have hr1 : (m2.rule == m.rule) = false := by rw [beq_eq_false_iff_ne]; exact h1
      have HF : Hid (keyM m.rule m.at_ m2 = false) := Lib.hid (by unfold keyM; simp [h1])
      clear h1
      go_wp2_with fail
      refine wp_region_ordH [0, 1, 2, 3, 4, 5, 6, 7, 8, 9, 10, 11, 12, 13, 14, 15, 16, 17] (fun w' => Below wr.heap.size wr w') (by kernel_rfl) (by kernel_rfl) ?_
      iterate 18 ((first | (refine ordH_free (v := ?_) rfl (by kernel_rfl) (fun _ _ _ h => h) (Or.inl ⟨rfl, fun w' hS => ?_⟩) hb0 ?_; rotate_left; (have x0 := cell_below x0 hS; have x2 := cell_below x2 hS; have d0 := (HXB.out.below hS).rd.1; go_simp <;> with_reducible rfl)) | (refine ordH_free (v := undef) rfl (by kernel_rfl) (fun _ _ _ h => h) (Or.inr ⟨rfl, rfl⟩) hb0 ?_)); (simp only [Act.put, List.setIfInBounds_toArray, List.set_cons_zero, List.set_cons_succ]))
      refine ⟨by kernel_rfl, ?_⟩
      have HB1 := Lib.hid (below_then HB.out hb0)
      clear x0 x1 x2 x3 x4 hb0
      go_wp2_with fail
      exact ⟨⟨k + 1, by simp, by rw [HCS.out, HF.out]; rfl, by omega, HB1.out⟩, by simp [intOf]; omega⟩
  · obtain rfl : k = rs.length := by omega
    rw [List.take_length]
    go_wp2_with fail
    go_ret
    exact ⟨rfl, HB0.out.trans (HB.out.mono HB0.out.size)⟩
end Go.Proofs.Ytfaafndaelmbfaa
