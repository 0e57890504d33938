/- OutboxRoom's walk -/
import Derived.Test.YtfaafndaelmbfaaOMid
namespace Go.Proofs.Ytfaafndaelmbfaa
open Go.RowKit
attribute [local go_sem] Oper.semAt_some

theorem mod_u64 (n : Int) (k : Nat) (hk : 0 < k) (hk2 : k ≤ 10000000) : ∃ m : Nat, wrap64 ((IntKind.u64.wrap n).tmod k) = m ∧ m < k := by
  have h0 : 0 ≤ IntKind.u64.wrap n := by rw [IntKind.wrap_u64]; omega
  generalize IntKind.u64.wrap n = u at h0
  have h1 : u.tmod k = u % k := Int.tmod_eq_emod_of_nonneg h0
  have h2 : 0 ≤ u % k := Int.emod_nonneg _ (by omega)
  have h3 : u % k < k := Int.emod_lt_of_pos _ (by omega)
  rw [h1]
  refine ⟨(u % k).toNat, ?_, by omega⟩
  rw [Int.toNat_of_nonneg h2]
  exact IntWalk.wrap64_in _ ⟨by omega, by omega⟩
/-- k messages of one rule -/
def roomL (k : Nat) : List Ox := (List.range k).map (fun i => ⟨bare 1 (i : Nat), 0, 0⟩)
def Bare (xs : List Ox) : Prop := ∀ x ∈ xs, x.m.ks = [] ∧ x.m.ss = []
theorem Bare.few {xs : List Ox} (h : Bare xs) : FewO xs := fun x hx => ⟨by rw [(h x hx).1]; simp, by rw [(h x hx).2]; simp⟩
theorem roomL_bare (k : Nat) : Bare (roomL k) := by
  intro x hx
  unfold roomL at hx
  obtain ⟨i, _, rfl⟩ := List.mem_map.1 hx
  exact ⟨rfl, rfl⟩
theorem room_add {k : Nat} (h : k < 6) : addE (roomL k) (bare 1 k) 0 = 0 ∧ addL (roomL k) (bare 1 k) 0 = roomL (k + 1) ∧ (roomL k).length = k := by
  rcases (by omega : k = 0 ∨ k = 1 ∨ k = 2 ∨ k = 3 ∨ k = 4 ∨ k = 5) with rfl | rfl | rfl | rfl | rfl | rfl <;> exact ⟨by decide, rfl, rfl⟩
def two : Ox := ⟨bare 2 0, 0, 0⟩
theorem room_full : addE (roomL 6) (bare 2 0) 0 = 240 ∧ addL (roomL 6) (bare 2 0) 0 = roomL 6 ∧ (roomL 6).length = 6 := ⟨by decide, rfl, rfl⟩
theorem room_ack {a : Nat} (h : a < 6) : ∃ ys, ackL (roomL 6) 1 a = ys ∧ hasR (roomL 6) 1 a = true ∧ ys.length = 5 ∧ addE ys (bare 2 0) 0 = 0 ∧ addL ys (bare 2 0) 0 = ys ++ [two] ∧ addE (ys ++ [two]) (bare 3 0) 0 = 240 ∧ addL (ys ++ [two]) (bare 3 0) 0 = ys ++ [two] := by
  rcases (by omega : a = 0 ∨ a = 1 ∨ a = 2 ∨ a = 3 ∨ a = 4 ∨ a = 5) with rfl | rfl | rfl | rfl | rfl | rfl <;> exact ⟨_, rfl, by decide, rfl, by decide, rfl, by decide, rfl⟩
set_option maxRecDepth 100000 in
set_option maxHeartbeats 4000000 in
theorem outboxRoom_any {ack : Int} {w : World} (_ : (Lit.int .i64 ack).wf = true) : Calls Try.prog 3 #[.int .i64 ack] w (Tells (.bool true) w) := by
  obtain ⟨a, ha, ha6⟩ := mod_u64 ack 6 (by omega) (by omega)
  have ha' : wrap64 ((IntKind.u64.wrap ack).tmod 6) = (a : Int) := ha
  obtain ⟨ys, y1, y2, y3, y4, y5, y6, y7⟩ := room_ack ha6
  have Y1 := Lib.hid y1
  have Y2 := Lib.hid y2
  have Y3 := Lib.hid y3
  have Y4 := Lib.hid y4
  have Y5 := Lib.hid y5
  have Y6 := Lib.hid y6
  have Y7 := Lib.hid y7
  have hbare : Bare (ys ++ [two]) := by
    intro x hx
    rcases List.mem_append.1 hx with hx | hx
    · rw [← y1] at hx
      exact roomL_bare 6 x (List.mem_of_mem_eraseP hx)
    · obtain rfl := List.mem_singleton.1 hx
      exact ⟨rfl, rfl⟩
  have HBARE := Lib.hid hbare
  clear y1 y2 y3 y4 y5 y6 y7 ha hbare
  go_enter Try.func3, Try.ntmps3
  go_wp2_with fail
  rw [ha']
  refine (new_m w).mono ?_
  rintro e w1 ⟨rfl, hN, hb⟩
  obtain ⟨p, hp⟩ : ∃ p, p = w.heap.size := ⟨_, rfl⟩
  have hN0 : BxM (fun b => b < w.heap.size) p w1 (roomL 0) := by
    rw [hp]
    exact hN.turn (fun b _ m => .inl m)
  have HB1 := Lib.hid hb
  rw [← hp]
  clear hp hb hN ha'
  go_wp2_with fail
  go_loopw [4] (fun iv_ wr => ∃ k : Nat, iv_ = .int .i64 k ∧ k ≤ 6 ∧ BxM (fun b => b < w.heap.size) p wr (roomL k) ∧ Below w.heap.size w wr) (fun iv_ _ => 6 - (intOf iv_).toNat)
  · exact ⟨0, rfl, by omega, hN0, HB1.out⟩
  clear hN0
  obtain ⟨k, rfl, hk, hN, hB⟩ := hrel
  have HN := Lib.hid hN
  have HB := Lib.hid hB
  clear hN hB
  by_cases hlt : k < 6
  · have hkk : (k : Int) < 6 := by omega
    obtain ⟨r1, r2, r3⟩ := room_add hlt
    have HG := Lib.hid (add_m (r := ⟨.slice none 0 0, .slice none 0 0, bare 1 k⟩) (at_ := 0) (T := fun _ => True) HN.out (fun b m => Nat.lt_of_lt_of_le m HB.out.size) bare_mo (bare_few _ _) (by omega))
    have R1 := Lib.hid r1
    have R2 := Lib.hid r2
    clear r1 r2 r3
    go_wp2_with fail
    refine HG.out.mono ?_
    rintro e w2 ⟨rfl, hN2, hk2⟩
    rw [R2.out] at hN2
    simp only [R1.out]
    have HN2 := Lib.hid hN2
    have HB2 := Lib.hid (HB.out.trans (hk2.below (fun b m => Nat.le_of_not_lt m) HB.out.size))
    clear hN2 hk2 HG
    go_wp2_with fail
    exact ⟨⟨k + 1, by simp, by omega, HN2.out, HB2.out⟩, by simp [intOf]; omega⟩
  · obtain rfl : k = 6 := by omega
    obtain ⟨f1, f2, f3⟩ := room_full
    have HG := Lib.hid (add_m (r := ⟨.slice none 0 0, .slice none 0 0, bare 2 0⟩) (at_ := 0) (T := fun _ => True) HN.out (fun b m => Nat.lt_of_lt_of_le m HB.out.size) bare_mo (bare_few _ _) (by rw [f3]; omega))
    have F1 := Lib.hid f1
    have F2 := Lib.hid f2
    have F3 := Lib.hid f3
    clear f1 f2 f3
    go_wp2_with fail
    refine HG.out.mono ?_
    rintro e w2 ⟨rfl, hN2, hk2⟩
    rw [F2.out] at hN2
    simp only [F1.out]
    have HN2 := Lib.hid hN2
    have HB2 := Lib.hid (HB.out.trans (hk2.below (fun b m => Nat.le_of_not_lt m) HB.out.size))
    clear hN2 hk2 HG
    go_wp2_with fail
    refine (ack_m HN2.out (by rw [F3.out]; omega)).mono ?_
    rintro e w3 ⟨rfl, hN3, hk3⟩
    rw [Y1.out] at hN3
    simp only [Y2.out]
    have HN3 := Lib.hid hN3
    have HB3 := Lib.hid (HB2.out.trans (hk3.below (fun b m => Nat.le_of_not_lt m) HB2.out.size))
    clear hN3 hk3
    go_wp2_with fail
    refine (add_m (r := ⟨.slice none 0 0, .slice none 0 0, bare 2 0⟩) (at_ := 0) (T := fun _ => True) HN3.out (fun b m => Nat.lt_of_lt_of_le m HB3.out.size) bare_mo (bare_few _ _) (by rw [Y3.out]; omega)).mono ?_
    rintro e w4 ⟨rfl, hN4, hk4⟩
    rw [Y5.out] at hN4
    simp only [Y4.out]
    have HN4 := Lib.hid hN4
    have HB4 := Lib.hid (HB3.out.trans (hk4.below (fun b m => Nat.le_of_not_lt m) HB3.out.size))
    clear hN4 hk4
    go_wp2_with fail
    refine (add_m (r := ⟨.slice none 0 0, .slice none 0 0, bare 3 0⟩) (at_ := 0) (T := fun _ => True) HN4.out (fun b m => Nat.lt_of_lt_of_le m HB4.out.size) bare_mo (bare_few _ _) (by rw [List.length_append, Y3.out]; simp)).mono ?_
    rintro e w5 ⟨rfl, hN5, hk5⟩
    rw [Y7.out] at hN5
    simp only [Y6.out]
    have HN5 := Lib.hid hN5
    have HB5 := Lib.hid (HB4.out.trans (hk5.below (fun b m => Nat.le_of_not_lt m) HB4.out.size))
    clear hN5 hk5
    go_wp2_with fail
    refine (all_m HN5.out HBARE.out.few (by rw [List.length_append, Y3.out]; simp)).mono ?_
    rintro e w6 ⟨v, rs, rfl, hrs, hR, hb⟩
    obtain ⟨q, d, rfl⟩ := owns_slice hR.own
    have HB6 := Lib.hid (HB5.out.trans (hb.mono HB5.out.size))
    have hl : rs.length = 6 := by rw [← List.length_map (f := Ow.pl), hrs, List.length_append, Y3.out]; rfl
    obtain ⟨o, ho, hor⟩ : ∃ o, rs[5]? = some o ∧ o.m.m.rule = 2 := by
      have e1 : (rs.map Ow.pl)[5]? = some two := by rw [hrs, List.getElem?_append_right (by rw [Y3.out]; omega), Y3.out]; rfl
      rw [List.getElem?_map] at e1
      cases h5 : rs[5]? with
      | none => rw [h5] at e1; cases e1
      | some o =>
        rw [h5] at e1
        refine ⟨o, rfl, ?_⟩
        have e2 : o.pl = two := by simpa using e1
        show o.pl.m.rule = 2
        rw [e2]
        rfl
    obtain ⟨ad, rfl, -, -, hrow⟩ := (Sl.owned encO_len hR.own).at ho
    have x0 := hrow 5 o ho 0 _ rfl
    rw [Addr.add_zero', hor] at x0
    have x0' : w6.cell? ⟨ad.block, ad.off + 35, none⟩ = some (.int .u32 2) := x0
    rw [hl]
    clear hR hb hrs ho hor hl hrow x0
    go_wp2_with fail
    go_ret
    exact ⟨rfl, HB6.out⟩
end Go.Proofs.Ytfaafndaelmbfaa
