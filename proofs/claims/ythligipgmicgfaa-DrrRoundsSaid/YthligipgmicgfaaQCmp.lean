/- Equal labels, items, lists of items are found the same. -/
import Derived.Test.YthligipgmicgfaaQAll
import Derived.Laws.StructEq
import Derived.Laws.Cover2
import Derived.Laws.Tables
namespace Go.Proofs.Ythligipgmicgfaa
open Go.RowKit
attribute [local go_sem] Oper.semAt_some

theorem equal_label (x : Lbl) (w : World) : (Op.equalIn 10000 79 (.agg #[.string x.nm, .string x.vl]) (.agg #[.string x.nm, .string x.vl])).run Try.prog w = .ok true w := by
  have u1 := Try.underlying9
  have a1 := Try.isAgg9
  have z1 := Try.sizeOf9
  have hS : Try.prog.underlying 79 = some (.struct (Try.prog.fieldsOf 79)) := by kernel_rfl
  rw [show (10000 : Nat) = 9997 + 1 + 1 + 1 from rfl, run_equalIn_agg w (9997 + 1 + 1) 79 _ _ hS (by kernel_rfl)]
  simp only [Program.fieldsOf, Try.underlying79]
  go_simp
theorem guard_label : Try.prog.eqGuardType Try.prog.depth 79 = false := by kernel_rfl
theorem equal_sample (a b : Int) (w : World) : (Op.equalIn 10000 30 (.agg #[.int .i64 a, .int .i64 b]) (.agg #[.int .i64 a, .int .i64 b])).run Try.prog w = .ok true w := by
  have u1 := Try.underlying3
  have a1 := Try.isAgg3
  have z1 := Try.sizeOf3
  have u2 := Try.underlying2
  have a2 := Try.isAgg2
  have z2 := Try.sizeOf2
  have hS : Try.prog.underlying 30 = some (.struct (Try.prog.fieldsOf 30)) := by kernel_rfl
  rw [show (10000 : Nat) = 9997 + 1 + 1 + 1 from rfl, run_equalIn_agg w (9997 + 1 + 1) 30 _ _ hS (by kernel_rfl)]
  simp only [Program.fieldsOf, Try.underlying30]
  go_simp
theorem guard_sample : Try.prog.eqGuardType Try.prog.depth 30 = false := by kernel_rfl

/-- labels behind an address -/
theorem lab_at {W : World} {a : Addr} {ls : List Lbl} (h : RowAt W a 2 encL ls) {i : Nat} {x : Lbl} (hx : ls[i]? = some x) : W.cell? (a.add (i * 2)) = some (.string x.nm) ∧ W.cell? ⟨(a.add (i * 2)).block, (a.add (i * 2)).off + 1, none⟩ = some (.string x.vl) :=
  ⟨h i x hx 0 _ rfl, h i x hx 1 _ rfl⟩
set_option maxRecDepth 100000 in
set_option maxHeartbeats 2000000 in
theorem sameLabels_any {S T : Nat → Prop} {a b : Value} {ls : List Lbl} {w : World} (h1 : Lb S w a ls) (h2 : Lb T w b ls) :
    Calls Try.prog 37 #[a, b] w (Tells (.bool true) w) := by
  obtain ⟨p1, c1, rfl, _, hc1⟩ := h1.sl.len
  obtain ⟨p2, c2, rfl, _, _⟩ := h2.sl.len
  have H1 := Lib.hid h1.sl
  have H2 := Lib.hid h2.sl
  have hn : ls.length ≤ 4398046511104 := by have := h1.sz; omega
  clear h1 h2 hc1
  go_enter Try.func37, Try.ntmps37
  go_wp2_with fail
  go_loopw [5] (fun i wr => ∃ k : Nat, i = .int .i64 k ∧ k ≤ ls.length ∧ Below w.heap.size w wr) (fun i _ => ls.length - (intOf i).toNat)
  · exact ⟨0, rfl, by omega, Below.refl _ _⟩
  obtain ⟨k, rfl, hk, hB⟩ := hrel
  by_cases hlt : k < ls.length
  · obtain ⟨x, hx⟩ : ∃ x, ls[k]? = some x := ⟨_, List.getElem?_eq_getElem hlt⟩
    obtain ⟨a1, rfl, _, _, g1⟩ := (H1.out.below hB).at hx
    obtain ⟨a2, rfl, _, _, g2⟩ := (H2.out.below hB).at hx
    obtain ⟨x0, x1⟩ := lab_at g1 hx
    obtain ⟨y0, y1⟩ := lab_at g2 hx
    have hkk : (k : Int) < (ls.length : Int) := by omega
    clear g1 g2 hx
    go_wp2_with fail
    have he := fun w => equal_label x w
    have hg := guard_label
    refine still_all (by kernel_rfl) (by kernel_rfl) ?_
    repeat still_step
    refine wpStill_nil ?_
    clear x0 x1 y0 y1 he hg
    go_wp2_with fail
    exact ⟨⟨k + 1, by simp, by omega, hB.drew⟩, by simp [intOf]; omega⟩
  · obtain rfl : k = ls.length := by omega
    go_wp2_with fail
    go_ret
    exact ⟨rfl, hB⟩
set_option maxRecDepth 100000 in
set_option maxHeartbeats 2000000 in
theorem same_any {S T : Nat → Prop} {a b : Value} {x : It} {w : World} (h1 : Lb S w a x.ls) (h2 : Lb T w b x.ls) :
    Calls Try.prog 18 #[iv a x, iv b x] w (Tells (.bool true) w) := by
  have he := fun w => equal_sample x.at_ x.vl w
  have hg := guard_sample
  have hb0 : Below w.heap.size w ((w.alloc (.cells #[a, .int .i64 x.at_, .int .i64 x.vl, .int .i64 x.cost] 45)).alloc (.cells #[b, .int .i64 x.at_, .int .i64 x.vl, .int .i64 x.cost] 45)) := ((Below.refl _ w).alloc (Nat.le_refl _) _).alloc (by simp) _
  have b0 := (Box.new w #[a, .int .i64 x.at_, .int .i64 x.vl, .int .i64 x.cost] 45).alloc (.cells #[b, .int .i64 x.at_, .int .i64 x.vl, .int .i64 x.cost] 45)
  have b1 := Box.new (w.alloc (.cells #[a, .int .i64 x.at_, .int .i64 x.vl, .int .i64 x.cost] 45)) #[b, .int .i64 x.at_, .int .i64 x.vl, .int .i64 x.cost] 45
  rw [World.size_alloc] at b1
  have HC := Lib.hid (sameLabels_any (h1.below hb0) (h2.below hb0))
  have HB := Lib.hid hb0
  clear h1 h2
  obtain ⟨W, hW⟩ : ∃ W, (w.alloc (.cells #[a, .int .i64 x.at_, .int .i64 x.vl, .int .i64 x.cost] 45)).alloc (.cells #[b, .int .i64 x.at_, .int .i64 x.vl, .int .i64 x.cost] 45) = W := ⟨_, rfl⟩
  rw [hW] at HC HB b0 b1
  have HW := Lib.hid hW
  clear hW hb0
  go_enter Try.func18, Try.ntmps18
  go_wp2_with fail
  rw [HW.out]
  refine HC.out.mono ?_
  rintro e w1 ⟨rfl, hb⟩
  have c0 := (b0.below hb).rd.1
  have c1 := (b1.below hb).rd.1
  go_wp2_with fail
  go_ret
  exact ⟨rfl, below_then HB.out hb⟩
set_option maxRecDepth 100000 in
set_option maxHeartbeats 4000000 in
theorem sameAll_any {S T : Nat → Prop} {a b : Value} {xs : List It} {w : World} (h1 : Its S w a xs) (h2 : Its T w b xs) (hn : xs.length ≤ 100000) :
    Calls Try.prog 25 #[a, b] w (Tells (.bool true) w) := by
  obtain ⟨p1, c1, rfl⟩ := h1.slice
  obtain ⟨p2, c2, rfl⟩ := h2.slice
  have H1 := Lib.hid h1
  have H2 := Lib.hid h2
  clear h1 h2
  go_enter Try.func25, Try.ntmps25
  go_wp2_with fail
  go_loopw [5] (fun i wr => ∃ k : Nat, i = .int .i64 k ∧ k ≤ xs.length ∧ Below w.heap.size w wr) (fun i _ => xs.length - (intOf i).toNat)
  · exact ⟨0, rfl, by omega, Below.refl _ _⟩
  obtain ⟨k, rfl, hk, hB⟩ := hrel
  by_cases hlt : k < xs.length
  · obtain ⟨x, hx⟩ : ∃ x, xs[k]? = some x := ⟨_, List.getElem?_eq_getElem hlt⟩
    obtain ⟨a1, l1, rfl, g1, x0, x1, x2, x3⟩ := (H1.out.below hB).at hx
    obtain ⟨a2, l2, rfl, g2, y0, y1, y2, y3⟩ := (H2.out.below hB).at hx
    have hkk : (k : Int) < (xs.length : Int) := by omega
    have hk0 : (0 : Int) ≤ (k : Int) := by omega
    have G1 := Lib.hid g1
    have G2 := Lib.hid g2
    clear g1 g2 hx
    go_wp2_with fail
    refine wp_region_ordH [0, 1, 2, 3, 4, 5, 6, 7, 8, 9] (fun w' => Below wr.heap.size wr w') (by kernel_rfl) (by kernel_rfl) ?_
    have hb0 : Below wr.heap.size wr wr.drew := (Below.refl _ wr).drew
    iterate 8 ((first | (refine ordH_free (v := ?_) rfl (by kernel_rfl) (fun _ _ _ h => h) (Or.inl ⟨rfl, fun w' hS => ?_⟩) hb0 ?_; rotate_left; (have x0 := cell_below x0 hS; have x1 := cell_below x1 hS; have x2 := cell_below x2 hS; have x3 := cell_below x3 hS; have y0 := cell_below y0 hS; have y1 := cell_below y1 hS; have y2 := cell_below y2 hS; have y3 := cell_below y3 hS; go_simp <;> with_reducible rfl)) | (refine ordH_free (v := undef) rfl (by kernel_rfl) (fun _ _ _ h => h) (Or.inr ⟨rfl, rfl⟩) hb0 ?_)); (simp only [Act.put, List.setIfInBounds_toArray, List.set_cons_zero, List.set_cons_succ]))
    refine ordH_sole rfl (by kernel_rfl) rfl (fun K hK => ?_)
    go_simp
    refine (same_any (G1.out.below hb0) (G2.out.below hb0)).mono ?_
    rintro e w1 ⟨rfl, hb1⟩
    replace hb1 := below_then hb0 hb1
    refine hK _ _ hb1 ?_
    clear hK K
    iterate 1 ((first | (refine ordH_free (v := ?_) rfl (by kernel_rfl) (fun _ _ _ h => h) (Or.inl ⟨rfl, fun w' hS => ?_⟩) hb1 ?_; rotate_left; (skip; go_simp <;> with_reducible rfl)) | (refine ordH_free (v := undef) rfl (by kernel_rfl) (fun _ _ _ h => h) (Or.inr ⟨rfl, rfl⟩) hb1 ?_)); (simp only [Act.put, List.setIfInBounds_toArray, List.set_cons_zero, List.set_cons_succ]))
    refine ⟨by kernel_rfl, ?_⟩
    go_wp2_with fail
    exact ⟨⟨k + 1, by simp, by omega, below_then hB hb1⟩, by simp [intOf]; omega⟩
  · obtain rfl : k = xs.length := by omega
    go_wp2_with fail
    go_ret
    exact ⟨rfl, hB⟩
end Go.Proofs.Ythligipgmicgfaa
