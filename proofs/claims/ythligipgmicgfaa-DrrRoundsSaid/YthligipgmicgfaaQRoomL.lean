/- QueueRoom's walk -/
import Derived.Test.YthligipgmicgfaaQAll
import Derived.Test.YthligipgmicgfaaQOpn
namespace Go.Proofs.Ythligipgmicgfaa
open Go.RowKit
attribute [local go_sem] Oper.semAt_some
def PushIs (S : Nat → Prop) (p : Nat) (r : Int) (xs : List It) (w : World) (e : Ending) (w' : World) : Prop := e = .returned (.int .i64 r) ∧ QAt S p w' xs ∧ Kept (fun k => k = p) w w'
theorem push_yes {S : Nat → Prop} {p : Nat} {xs : List It} {c : Int} {w : World} (h : QAt S p w xs) (hS : ∀ k, w.heap.size ≤ k → S k) (h1 : 1 ≤ c) (h2 : c ≤ 256) (hn : xs.length < 8) : Calls Try.prog 13 #[qv p, .agg #[.slice none 0 0, .int .i64 0, .int .i64 0, .int .i64 c]] w (PushIs S p 0 (xs ++ [⟨[], 0, 0, c⟩]) w) := by
  have hm : mayCost ⟨[], 0, 0, c⟩ = true := by unfold mayCost; simp [h1, h2]
  refine (push_any (x := ⟨[], 0, 0, c⟩) h (Lb.nil S w) hS).mono ?_
  rintro e w' ⟨rfl, g1, g2⟩
  refine ⟨?_, ?_, g2⟩
  · unfold pushE; rw [hm, if_pos rfl, if_pos hn]
  · unfold pushL at g1; rw [hm, decide_eq_true hn] at g1; exact g1
theorem push_not {S : Nat → Prop} {p : Nat} {xs : List It} {c : Int} {w : World} (h : QAt S p w xs) (hS : ∀ k, w.heap.size ≤ k → S k) (h1 : 1 ≤ c) (h2 : c ≤ 256) (hn : ¬ xs.length < 8) : Calls Try.prog 13 #[qv p, .agg #[.slice none 0 0, .int .i64 0, .int .i64 0, .int .i64 c]] w (PushIs S p 200 xs w) := by
  have hm : mayCost ⟨[], 0, 0, c⟩ = true := by unfold mayCost; simp [h1, h2]
  refine (push_any (x := ⟨[], 0, 0, c⟩) h (Lb.nil S w) hS).mono ?_
  rintro e w' ⟨rfl, g1, g2⟩
  refine ⟨?_, ?_, g2⟩
  · unfold pushE; rw [hm, if_pos rfl, if_neg hn]
  · unfold pushL at g1; rw [hm, decide_eq_false hn] at g1; exact g1

theorem pop_nil {S : Nat → Prop} {p : Nat} {w : World} (h : QAt S p w []) : Calls Try.prog 14 #[qv p] w (FirstTo none w) :=
  pop_none (first_none (len_any ((h.below ((Below.refl _ w).alloc (Nat.le_refl _) _)).below ((Below.refl _ _).alloc (Nat.le_refl _) _))))
theorem mod_u64 (n : Int) (k : Nat) (hk : 0 < k) (hk2 : k ≤ 1000000) : ∃ m : Nat, wrap64 ((IntKind.u64.wrap n).tmod k) = m ∧ m < k := by
  have h0 : 0 ≤ IntKind.u64.wrap n := by rw [IntKind.wrap_u64]; omega
  generalize IntKind.u64.wrap n = u at h0
  have h1 : u.tmod k = u % k := Int.tmod_eq_emod_of_nonneg h0
  have h2 : 0 ≤ u % k := Int.emod_nonneg _ (by omega)
  have h3 : u % k < k := Int.emod_lt_of_pos _ (by omega)
  rw [h1]
  refine ⟨(u % k).toNat, ?_, by omega⟩
  unfold wrap64
  omega

set_option maxRecDepth 100000 in
set_option maxHeartbeats 4000000 in
theorem room_some (zs : List Int) (n : Int) (p : Option Addr) (cap : Nat) (w : World) (hM : Sl (fun _ => True) w (.slice p zs.length cap) 1 encN zs) (hlen : zs.length ≤ 40) :
    Calls Try.prog 3 #[.slice p zs.length cap, .int .i64 n] w (Tells (.bool true) w) := by
  have HN := Lib.hid (new_any w)
  have HM := Lib.hid hM
  clear hM
  go_enter Try.func3, Try.ntmps3
  go_wp2_with fail
  refine HN.out.mono ?_
  rintro e w1 ⟨rfl, hB1, hQ1⟩
  go_wp2_with fail
  obtain ⟨m, hm1, hm2⟩ := mod_u64 n 12 (by omega) (by omega)
  simp only [Int.cast_ofNat_Int] at hm1
  rw [hm1]
  clear hm1 HN
  have hmi : (0 : Int) ≤ m := by omega
  have hmi2 : (m : Int) < 12 := by omega
  go_loopw [6, 7] (fun v i wr => ∃ (k : Nat) (xs : List It), i = .int .i64 k ∧ v = .int .i64 xs.length ∧ k ≤ zs.length ∧ xs.length ≤ 8 ∧ QAt (fun b => b ≠ w.heap.size) w.heap.size wr xs ∧ Below w.heap.size w wr) (fun _ i _ => zs.length - (intOf i).toNat)
  · exact ⟨0, [], rfl, rfl, by omega, by simp, hQ1, hB1⟩
  obtain ⟨k, xs, rfl, rfl, hk, hx8, hQ, hB⟩ := hrel
  clear hQ1 hB1
  have hB0 := hB.size
  have hQl := hQ.lt
  by_cases hlt : k < zs.length
  · obtain ⟨z, hz⟩ : ∃ z, zs[k]? = some z := ⟨_, List.getElem?_eq_getElem hlt⟩
    obtain ⟨a, rfl, hab, _, hM⟩ := (HM.out.below hB).at hz
    have hz0 := hM k z hz 0 _ rfl
    clear hM
    rw [Nat.mul_one, Addr.add_zero'] at hz0
    obtain ⟨c, hc1, hc2⟩ := mod_u64 z 256 (by omega) (by omega)
    simp only [Int.cast_ofNat_Int] at hc1
    have HC1 := Lib.hid hc1
    clear hc1 hz
    have hkk : (k : Int) < (zs.length : Int) := by omega
    have hc0 : (0 : Int) ≤ c := by omega
    have hc256 : (c : Int) < 256 := by omega
    have HQ := Lib.hid hQ
    go_wp2_with fail
    rw [HC1.out, show wrap64 (1 + (c : Int)) = 1 + (c : Int) from IntWalk.wrap64_in _ ⟨by omega, by omega⟩]
    by_cases hx : xs.length < 8
    · have hx1 : (xs.length : Int) < 8 := by omega
      refine (push_yes HQ.out (fun b hb => Nat.ne_of_gt (Nat.lt_of_lt_of_le hQl hb)) (by omega) (by omega) hx).mono ?_
      rintro e w2 ⟨rfl, hQ2, hk2⟩
      have HQ2 := Lib.hid hQ2
      have HB2 := Lib.hid (hB.trans (hk2.below (fun b e => Nat.le_of_eq e.symm) hB0))
      clear hQ2 hk2 hQ hB HQ hz0
      go_wp2
      exact ⟨⟨k + 1, _, by simp, by simp, by omega, by simp; omega, HQ2.out, HB2.out⟩, by simp [intOf]; omega⟩
    · have hx1 : ¬ (xs.length : Int) < 8 := by omega
      refine (push_not HQ.out (fun b hb => Nat.ne_of_gt (Nat.lt_of_lt_of_le hQl hb)) (by omega) (by omega) hx).mono ?_
      rintro e w2 ⟨rfl, hQ2, hk2⟩
      have HQ2 := Lib.hid hQ2
      have HB2 := Lib.hid (hB.trans (hk2.below (fun b e => Nat.le_of_eq e.symm) hB0))
      clear hQ2 hk2 hQ hB HQ hz0
      go_wp2
      exact ⟨⟨k + 1, _, by simp, by simp, by omega, hx8, HQ2.out, HB2.out⟩, by simp [intOf]; omega⟩
  · obtain rfl : k = zs.length := by omega
    have HQ := Lib.hid hQ
    have HB := Lib.hid hB
    clear hQ hB HM
    go_wp2
    go_loopw [6, 9] (fun v i w2 => ∃ (j : Nat) (ys : List It), i = .int .i64 j ∧ v = .int .i64 ys.length ∧ j ≤ m ∧ ys.length ≤ 8 ∧ QAt (fun b => b ≠ w.heap.size) w.heap.size w2 ys ∧ Below w.heap.size w w2) (fun _ i _ => m - (intOf i).toNat)
    · exact ⟨0, xs, rfl, rfl, by omega, hx8, HQ.out, HB.out⟩
    obtain ⟨j, ys, rfl, rfl, hj, hy8, hQ, hB⟩ := hrel
    have hB0 := hB.size
    have hQl := hQ.lt
    by_cases hjm : j < m
    · have hjj : (j : Int) < (m : Int) := by omega
      cases ys with
      | nil =>
        have HQ := Lib.hid hQ
        go_wp2_with fail
        refine (pop_nil HQ.out).mono ?_
        rintro e w3 ⟨rfl, hb⟩
        have HB2 := Lib.hid (hB.trans (hb.mono hB0))
        have HQ2 := Lib.hid (HQ.out.below hb)
        clear hQ HQ hb hB
        go_wp2
        exact ⟨⟨j + 1, [], by simp, rfl, by omega, hy8, HQ2.out.below ((Below.refl _ _).alloc (Nat.le_refl _) _), HB2.out.alloc HB2.out.size _⟩, by simp [intOf]; omega⟩
      | cons y ys =>
        have HQ := Lib.hid hQ
        go_wp2_with fail
        refine (pop_some HQ.out).mono ?_
        rintro e w3 ⟨lv, rfl, hlv, hQ3, hk⟩
        obtain ⟨p1, q1, rfl⟩ := hlv.lb.slice
        have HB2 := Lib.hid (hB.trans (hk.below (fun b e => Nat.le_of_eq e.symm) hB0))
        have HQ2 := Lib.hid hQ3
        have hy7 : (0 : Int) < (ys.length : Int) + 1 := by omega
        simp only [List.length_cons] at hy8 ⊢
        clear hQ HQ hQ3 hk hB
        go_wp2
        exact ⟨⟨j + 1, ys, by simp, by simp, by omega, by omega, HQ2.out.below ((Below.refl _ _).alloc (Nat.le_refl _) _), HB2.out.alloc HB2.out.size _⟩, by simp [intOf]; omega⟩
    · obtain rfl : j = m := by omega
      have HQ := Lib.hid hQ
      have HB := Lib.hid hB
      clear hQ hB
      go_wp2_with fail
      refine (len_any HQ.out).mono ?_
      rintro e w3 ⟨rfl, rfl⟩
      go_wp2_with fail
      refine (all_any HQ.out (by omega)).mono ?_
      rintro e w4 ⟨v, rs, rfl, hR, hb⟩
      obtain ⟨p1, q1, rfl⟩ := hR.all.slice
      have HB4 := Lib.hid (HB.out.trans (hb.mono hB0))
      have HQ4 := Lib.hid (HQ.out.below hb)
      have hs4 := hb.size
      clear hR hb
      go_wp2_with fail
      by_cases hy : ys.length < 8
      · have hy1 : (ys.length : Int) < 8 := by omega
        refine (push_yes HQ4.out (fun b hb => Nat.ne_of_gt (Nat.lt_of_lt_of_le (Nat.lt_of_lt_of_le hQl hs4) hb)) (by omega) (by omega) hy).mono ?_
        rintro e w5 ⟨rfl, hQ5, hk5⟩
        have HB5 := Lib.hid (HB4.out.trans (hk5.below (fun b e => Nat.le_of_eq e.symm) HB4.out.size))
        clear hQ5 hk5
        go_wp2
        go_ret
        exact ⟨rfl, HB5.out⟩
      · have hy1 : ¬ (ys.length : Int) < 8 := by omega
        have hd : decide ((ys.length : Int) < 8) = false := decide_eq_false hy1
        refine (push_not HQ4.out (fun b hb => Nat.ne_of_gt (Nat.lt_of_lt_of_le (Nat.lt_of_lt_of_le hQl hs4) hb)) (by omega) (by omega) hy).mono ?_
        rintro e w5 ⟨rfl, hQ5, hk5⟩
        have HB5 := Lib.hid (HB4.out.trans (hk5.below (fun b e => Nat.le_of_eq e.symm) HB4.out.size))
        clear hQ5 hk5
        go_wp2
        go_ret
        exact ⟨rfl, HB5.out⟩
set_option maxRecDepth 100000 in
theorem room_big (zs : List Int) (n : Int) (p : Option Addr) (cap : Nat) (w : World) (hlen : ¬ zs.length ≤ 40) : Calls Try.prog 3 #[.slice p zs.length cap, .int .i64 n] w (Tells (.bool true) w) := by
  have h1 : (40 : Int) < zs.length := by omega
  go_enter Try.func3, Try.ntmps3
  go_wp2_with fail
  go_ret
  exact ⟨rfl, Below.refl _ _⟩
theorem room_any {v : Value} {zs : List Int} {n : Int} {w : World} (h : Sl (fun _ => True) w v 1 encN zs) (_ : ∀ x ∈ zs, (Lit.int .i64 x).wf = true) (_ : (Lit.int .i64 n).wf = true) : Calls Try.prog 3 #[v, .int .i64 n] w (Tells (.bool true) w) := by
  obtain ⟨p, c, rfl, _, _⟩ := h.len
  by_cases hl : zs.length ≤ 40
  · exact room_some zs n p c w h hl
  · exact room_big zs n p c w hl
end Go.Proofs.Ythligipgmicgfaa
