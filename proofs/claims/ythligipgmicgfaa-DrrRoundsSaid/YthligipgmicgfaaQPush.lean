/- (*Queue).Push -/
import Derived.Test.YthligipgmicgfaaQPop
import Derived.Deep.RegionLaw
import Derived.Test.YthligipgmicgfaaQLast
import Derived.Deep.DrawnRows
namespace Go.Proofs.Ythligipgmicgfaa
open Go.RowKit
attribute [local go_sem] Oper.semAt_some
attribute [local go_sem ↓] Go.wp_at_zero Go.wp_at_succ

theorem Lb.drew {S : Nat → Prop} {W : World} {v : Value} {ls : List Lbl} (h : Lb S W v ls) : Lb S W.drew v ls := h.below (Below.refl _ W).drew
theorem cap_le {S : Nat → Prop} {W : World} {p : Option Addr} {n c : Nat} {xs : List It} (h : Its S W (.slice p n c) xs) : n ≤ c ∧ c ≤ 9223372036854775807 := by
  rcases h with ⟨h, rfl⟩ | ⟨a, cap, rs, h, h1, h2, h3⟩
  · simp only [Value.slice.injEq] at h; omega
  · simp only [Value.slice.injEq] at h; unfold maxLen at h2; omega
def mayCost (x : It) : Bool := decide (1 ≤ x.cost) && decide (x.cost ≤ 256)
/-- what Push answers, what waits behind it -/
def pushE (xs : List It) (x : It) : Int := if mayCost x then (if xs.length < 8 then 0 else 200) else 2
def pushL (xs : List It) (x : It) : List It := if mayCost x && decide (xs.length < 8) then xs ++ [x] else xs
def PushTo (S : Nat → Prop) (p : Nat) (xs : List It) (x : It) (w : World) (e : Ending) (w' : World) : Prop := e = .returned (.int .i64 (pushE xs x)) ∧ QAt S p w' (pushL xs x) ∧ Kept (fun k => k = p) w w'

theorem info_item : (Try.prog.info? 32).map (fun i => (i.zero, i.size, i.bytes)) = some (some (.agg z4), 4, 48) := by kernel_rfl

set_option maxRecDepth 100000 in
set_option maxHeartbeats 1000000 in
theorem push_no {q lv : Value} {x : It} {w : World} (h : QNo w q) : Calls Try.prog 13 #[q, iv lv x] w (Tells (.int .i64 1) w) := by
  have hb0 : Below w.heap.size w (w.alloc (.cells #[lv, .int .i64 x.at_, .int .i64 x.vl, .int .i64 x.cost] 32)) := (Below.refl _ w).alloc (Nat.le_refl _) _
  have HN := Lib.hid (none_no (h.below hb0))
  clear h
  go_enter Try.func13, Try.ntmps13
  go_wp2_with fail
  refine HN.out.mono ?_
  rintro e w1 ⟨rfl, rfl⟩
  go_wp2
  go_ret
  exact ⟨rfl, hb0⟩
set_option maxRecDepth 100000 in
set_option maxHeartbeats 1000000 in
theorem push_arg {S : Nat → Prop} {p : Nat} {xs : List It} {lv : Value} {x : It} {w : World} (h : QAt S p w xs) (hx : x.cost < 1 ∨ 256 < x.cost) : Calls Try.prog 13 #[qv p, iv lv x] w (PushTo S p xs x w) := by
  have hm : mayCost x = false := by
    unfold mayCost
    rcases hx with hx | hx
    · rw [decide_eq_false (by omega : ¬ 1 ≤ x.cost)]; rfl
    · rw [decide_eq_false (by omega : ¬ x.cost ≤ 256), Bool.and_false]
  have he : PushTo S p xs x w (.returned (.int .i64 2)) (w.alloc (.cells #[lv, .int .i64 x.at_, .int .i64 x.vl, .int .i64 x.cost] 32)) := by
    have hb0 : Below w.heap.size w (w.alloc (.cells #[lv, .int .i64 x.at_, .int .i64 x.vl, .int .i64 x.cost] 32)) := (Below.refl _ w).alloc (Nat.le_refl _) _
    refine ⟨by unfold pushE; rw [hm]; rfl, ?_, kept_of_below hb0⟩
    unfold pushL
    rw [hm]
    exact h.below hb0
  have hb0 : Below w.heap.size w (w.alloc (.cells #[lv, .int .i64 x.at_, .int .i64 x.vl, .int .i64 x.cost] 32)) := (Below.refl _ w).alloc (Nat.le_refl _) _
  have HN := Lib.hid (none_any (h.below hb0))
  have HE := Lib.hid he
  clear h hm he
  rcases hx with hx | hx
  · go_enter Try.func13, Try.ntmps13
    go_wp2_with fail
    refine HN.out.mono ?_
    rintro e w1 ⟨rfl, rfl⟩
    go_wp2
    go_ret
    exact HE.out
  · have hx1 : ¬ x.cost < 1 := by omega
    have hd : decide (x.cost < 1) = false := decide_eq_false hx1
    go_enter Try.func13, Try.ntmps13
    go_wp2_with fail
    refine HN.out.mono ?_
    rintro e w1 ⟨rfl, rfl⟩
    go_wp2
    go_ret
    exact HE.out
theorem push_full {S : Nat → Prop} {p : Nat} {xs : List It} {lv : Value} {x : It} {w : World} (h : QAt S p w xs) (hx1 : 1 ≤ x.cost) (hx2 : x.cost ≤ 256) (hn : 8 ≤ xs.length) : Calls Try.prog 13 #[qv p, iv lv x] w (PushTo S p xs x w) := by
  have hm : mayCost x = true := by unfold mayCost; simp [hx1, hx2]
  have hb0 : Below w.heap.size w (w.alloc (.cells #[lv, .int .i64 x.at_, .int .i64 x.vl, .int .i64 x.cost] 32)) := (Below.refl _ w).alloc (Nat.le_refl _) _
  have he : PushTo S p xs x w (.returned (.int .i64 200)) (w.alloc (.cells #[lv, .int .i64 x.at_, .int .i64 x.vl, .int .i64 x.cost] 32)) := by
    refine ⟨by unfold pushE; rw [hm, if_pos rfl, if_neg (by omega)], ?_, kept_of_below hb0⟩
    unfold pushL
    rw [hm, decide_eq_false (by omega)]
    exact h.below hb0
  have HN := Lib.hid (none_any (h.below hb0))
  have HE := Lib.hid he
  obtain ⟨v, h1, h2, h3⟩ := h.below hb0
  obtain ⟨p1, q1, rfl⟩ := h2.slice
  have hx3 : ¬ x.cost < 1 := by omega
  have hd : decide (x.cost < 1) = false := decide_eq_false hx3
  have hn8 : (8 : Int) ≤ xs.length := by omega
  have hpl := h.lt
  obtain ⟨c, z⟩ := h1.rd
  clear h hm he hb0 h1 h2 h3
  go_enter Try.func13, Try.ntmps13
  go_wp2_with fail
  refine HN.out.mono ?_
  rintro e w1 ⟨rfl, rfl⟩
  go_wp2
  go_ret
  exact HE.out
set_option maxRecDepth 100000 in
set_option maxHeartbeats 4000000 in
theorem push_ok {S T : Nat → Prop} {p : Nat} {xs : List It} {lv : Value} {x : It} {w : World} (h : QAt S p w xs) (hl : Lb T w lv x.ls) (hx1 : 1 ≤ x.cost) (hx2 : x.cost ≤ 256) (hn : xs.length < 8) (hS : ∀ k, w.heap.size ≤ k → S k) : Calls Try.prog 13 #[qv p, iv lv x] w (PushTo S p xs x w) := by
  have hm : mayCost x = true := by unfold mayCost; simp [hx1, hx2]
  have HE : Hid (∀ w', QAt S p w' (xs ++ [x]) → Kept (fun k => k = p) w w' → PushTo S p xs x w (.returned (.int .i64 0)) w') := Lib.hid fun w' h1 h2 => by
    refine ⟨by unfold pushE; rw [hm, if_pos rfl, if_pos hn], ?_, h2⟩
    unfold pushL
    rw [hm, decide_eq_true hn]
    exact h1
  have hb0 : Below w.heap.size w (w.alloc (.cells #[lv, .int .i64 x.at_, .int .i64 x.vl, .int .i64 x.cost] 32)) := (Below.refl _ w).alloc (Nat.le_refl _) _
  have HN := Lib.hid (none_any (h.below hb0))
  have HL := Lib.hid (hl.below hb0)
  have hx3 : ¬ x.cost < 1 := by omega
  have hd : decide (x.cost < 1) = false := decide_eq_false hx3
  have hd2 : decide (256 < x.cost) = false := decide_eq_false (by omega)
  have hn8 : (xs.length : Int) < 8 := by omega
  have hpl := h.lt
  have b0 := Box.new w #[lv, .int .i64 x.at_, .int .i64 x.vl, .int .i64 x.cost] 32
  obtain ⟨v, h1, h2, h3⟩ := h.below hb0
  obtain ⟨p1, q1, rfl⟩ := h2.slice
  obtain ⟨p2, q2, rfl⟩ := hl.slice
  obtain ⟨c, z⟩ := h1.rd
  clear h hl hm
  obtain ⟨W, hW⟩ : ∃ W, (w.alloc (.cells #[.slice p2 x.ls.length q2, .int .i64 x.at_, .int .i64 x.vl, .int .i64 x.cost] 32)) = W := ⟨_, rfl⟩
  rw [hW] at HN HL hb0 b0 h1 h2 c z
  have HW := Lib.hid hW
  have HB0 := Lib.hid hb0
  have hWs : w.heap.size < W.heap.size := b0.lt
  have hc0 := cap_le h2
  obtain ⟨c0, z0⟩ := b0.rd
  clear hW hb0
  go_enter Try.func13, Try.ntmps13
  go_wp2_with fail
  rw [HW.out]
  refine HN.out.mono ?_
  rintro e w1 ⟨rfl, rfl⟩
  go_wp2_with fail
  have hsz : (0 : Int) ≤ (xs.length : Int) := by omega
  have hsz2 : (xs.length : Int) ≤ (q1 : Int) := by omega
  have hpW : p < W.heap.size := by omega
  obtain ⟨i0, hi, hi0, hi1, hi2⟩ := info_parts info_item
  have HI := Lib.hid hi
  have HI0 := Lib.hid hi0
  have HI1 := Lib.hid hi1
  have HI2 := Lib.hid hi2
  have HH1 := Lib.hid h1
  obtain ⟨rs, hrs, hsl, hlab⟩ := h2.sl
  have HRS := Lib.hid hrs
  have HSL := Lib.hid hsl.cut
  have HLAB := Lib.hid hlab
  have hrl : rs.length < 8 := by rw [← hrs, List.length_map] at hn; exact hn
  have HRL : Hid (xs.length = rs.length) := by rw [← hrs, List.length_map]; exact rfl
  have HB0' := Lib.hid b0
  clear hi hi0 hi1 hi2 h1 h2 b0 hsl hlab hrs
  clear c z c0 z0
  refine wp_region_ord [0, 1, 2, 3, 4, 5, 6, 7, 8, 9, 10, 11, 12, 13, 14, 15, 16, 17, 18, 19, 20, 21, 22] (fun w' => Below W.heap.size W w') 22 (by kernel_rfl) (by kernel_rfl) ?_
  have hb0 : Below W.heap.size W W.drew := (Below.refl _ W).drew
  iterate 17 (refine wpOrd_free (v := ?_) rfl (by kernel_rfl) (fun _ _ _ h => h) (Or.inl ⟨rfl, fun w' hS => ?_⟩) hb0 ?_; rotate_left; (have c := (HH1.out.below hS).rd.1; have c0 := (HB0'.out.below hS).rd.1; go_simp <;> with_reducible rfl); (simp only [Act.put, List.setIfInBounds_toArray]))
  refine wpOrd_sole rfl (by kernel_rfl) rfl (fun K hK => ?_)
  go_simp
  refine (twin_any HL.out.drew).mono ?_
  rintro e w1 ⟨l1, rfl, hl1, hb1⟩
  obtain ⟨p3, q3, rfl⟩ := hl1.lb.slice
  replace hb1 := below_then hb0 hb1
  refine hK _ _ (.inr hb1) ?_
  clear hK K
  refine wpOrd_sole rfl (by kernel_rfl) rfl (fun K hK => ?_)
  go_simp
  refine hK _ _ (.inr (hb1.alloc hb1.size _)) ?_
  clear hK K
  have hb2 := hb1.alloc hb1.size (.cells #[.slice p3 x.ls.length q3, .int .i64 x.at_, .int .i64 x.vl, .int .i64 x.cost] 32)
  refine wpOrd_sole rfl (by kernel_rfl) rfl (fun K hK => ?_)
  refine wp_append_new encI_len (.tmp 39) (.tmp 42) 36 (by rfl) 32 i0 _ 48 Try.underlying36 HI.out HI0.out HI1.out HI2.out (by rfl) (by decide) (xs := rs) (ys := [(.slice p3 x.ls.length q3, x)]) (by rfl) (by rfl) HRL.out (HSL.out.below hb2) (Sl.one (S := fun _ => True) encI_len (Box.new _ _ _) rfl trivial) (by simp) (by simp only [List.length_cons, List.length_nil]; unfold maxLen; omega) (by simp only [List.length_cons, List.length_nil]; omega) ?_
  intro v2 w2 hown hb3 hat
  obtain ⟨p4, q4, rfl⟩ := owns_slice hown
  have hb13 : Below w1.heap.size w1 w2 := below_then ((Below.refl _ w1).alloc (Nat.le_refl _) _) hb3
  replace hb3 := below_then hb2 hb3
  refine hK _ _ (.inr hb3) ?_
  clear hK K
  simp only [Act.put, List.setIfInBounds_toArray]
  have c := (HH1.out.below hb3).rd.1
  have z := (HH1.out.below hb3).rd.2
  iterate 2 (refine wpOrd_free (v := ?_) rfl (by kernel_rfl) (fun _ _ _ h => h) (Or.inl ⟨rfl, fun w' hS => ?_⟩) hb3 ?_; rotate_left; (go_simp <;> with_reducible rfl); (simp only [Act.put]))
  refine wpOrd_sole rfl (by kernel_rfl) rfl (fun K hK => ?_)
  go_simp
  refine hK _ _ (.inl rfl) ?_
  clear hK K
  refine ⟨by kernel_rfl, ?_⟩
  go_wp2
  go_ret
  have hK3 : Kept (fun k => k = p) W (w2.setCell ⟨p, 0, none⟩ (.slice p4 (rs.length + 1) q4)) := (kept_of_below hb3).setCell _ _ (by simp)
  refine HE.out _ ⟨_, (HH1.out.below hb3).set _, ?_, h3⟩ (Kept.first HB0.out hK3)
  have hsl4 := (Sl.owned (α := Value × It) encI_len hown).mono (T := S) (fun k _ hk => by
    rw [hat] at hk
    cases hk
    exact hS _ (by rw [World.size_alloc]; have := hb1.size; omega))
  have hf : ∀ k, S k → ¬ k = p := fun k hk e => h3 (e ▸ hk)
  have hK4 : Kept (fun k => k = p) w2 (w2.setCell ⟨p, 0, none⟩ (.slice p4 (rs.length + 1) q4)) := (Kept.refl _ w2).setCell _ _ (by simp)
  rw [List.length_append] at hsl4
  refine Its.of_sl (rs := rs ++ [(.slice p3 x.ls.length q3, x)]) (by rw [List.map_append, HRS.out]; rfl) (hsl4.kept hK4 (fun k _ hk => hf k hk)) (fun r hr => ?_)
  rcases List.mem_append.1 hr with hr | hr
  · exact ((HLAB.out r hr).below hb3).kept hK4 (fun k _ hk => hf k hk)
  · obtain rfl : r = (.slice p3 x.ls.length q3, x) := by simpa using hr
    exact (((hl1.lb.below hb13).mono (T := S) (fun k _ hk => hS k (Nat.le_trans (Nat.le_of_lt hWs) hk))).kept hK4 (fun k _ hk => hf k hk))
theorem push_any {S T : Nat → Prop} {p : Nat} {xs : List It} {lv : Value} {x : It} {w : World} (h : QAt S p w xs) (hl : Lb T w lv x.ls) (hS : ∀ k, w.heap.size ≤ k → S k) : Calls Try.prog 13 #[qv p, iv lv x] w (PushTo S p xs x w) := by
  by_cases h1 : x.cost < 1 ∨ 256 < x.cost
  · exact push_arg h h1
  · by_cases h2 : xs.length < 8
    · exact push_ok h hl (by omega) (by omega) h2 hS
    · exact push_full h (by omega) (by omega) (by omega)
end Go.Proofs.Ythligipgmicgfaa
