/- tocsinlaw20.awake -/
import Derived.Test.YthligipgmicgfaaQSpl
import Derived.Test.YthligipgmicgfaaQRoomL
namespace Go.Proofs.Ythligipgmicgfaa
open Go.RowKit
attribute [local go_sem] Oper.semAt_some

theorem push_bad {S : Nat → Prop} {p : Nat} {xs : List It} {c : Int} {w : World} (h : QAt S p w xs) (hc : c < 1 ∨ 256 < c) : Calls Try.prog 13 #[qv p, .agg #[.slice none 0 0, .int .i64 0, .int .i64 0, .int .i64 c]] w (PushIs S p 2 xs w) := by
  have hm : mayCost ⟨[], 0, 0, c⟩ = false := by
    unfold mayCost
    rcases hc with hc | hc
    · rw [decide_eq_false (by omega : ¬ 1 ≤ c)]; rfl
    · rw [decide_eq_false (by omega : ¬ c ≤ 256), Bool.and_false]
  refine (push_arg (lv := .slice none 0 0) (x := ⟨[], 0, 0, c⟩) h hc).mono ?_
  rintro e w' ⟨rfl, g1, g2⟩
  refine ⟨?_, ?_, g2⟩
  · unfold pushE; rw [hm]; rfl
  · unfold pushL at g1; rw [hm] at g1; exact g1
theorem newS {W : World} {n : Nat} (h : n < W.heap.size) : ∀ k, W.heap.size ≤ k → k ≠ n := fun k hk e => by omega
/-- a queue of a law's own: what the law has seen so far -/
structure QL (w : World) (p : Nat) (xs : List It) (W : World) : Prop where
  q : QAt (fun k => k ≠ p) p W xs
  b : Below w.heap.size w W
  lt : w.heap.size ≤ p
theorem QL.set {w W W' : World} {p : Nat} {xs ys : List It} (h : QL w p xs W) (hq : QAt (fun k => k ≠ p) p W' ys) (hk : Kept (fun k => k = p) W W') : QL w p ys W' :=
  ⟨hq, h.b.trans (hk.below (fun _ e => e ▸ h.lt) h.b.size), h.lt⟩
theorem QL.later {w W W' : World} {p : Nat} {xs : List It} (h : QL w p xs W) (hb : Below W.heap.size W W') : QL w p xs W' := ⟨h.q.below hb, below_then h.b hb, h.lt⟩
theorem QL.new {w W W' : World} (h : Below w.heap.size w W) (hq : QAt (fun k => k ≠ W.heap.size) W.heap.size W' []) (hb : Below W.heap.size W W') : QL w W.heap.size [] W' := ⟨hq, below_then h hb, h.size⟩
theorem QL.s {w W : World} {p : Nat} {xs : List It} (h : QL w p xs W) : ∀ k, W.heap.size ≤ k → k ≠ p := newS h.q.lt

set_option maxRecDepth 100000 in
set_option maxHeartbeats 4000000 in
theorem awake20_any (w : World) : Calls Try.prog 27 #[] w (Tells (.bool true) w) := by
  go_enter Try.func27, Try.ntmps27
  go_wp2_with fail
  refine (new_any w).mono ?_
  rintro e w1 ⟨rfl, hb, hq⟩
  have q1 := Lib.hid (QL.new (Below.refl _ w) hq hb)
  clear hb hq
  obtain ⟨p, hp⟩ : ∃ p, p = w.heap.size := ⟨_, rfl⟩
  rw [← hp] at q1 ⊢
  clear hp
  go_wp2_with fail
  refine (push_yes q1.out.q q1.out.s (by omega) (by omega) (by decide)).mono ?_
  rintro e w2 ⟨rfl, hq, hk⟩
  have q2 := Lib.hid (q1.out.set hq hk)
  clear hq hk q1
  go_wp2_with fail
  refine (push_bad q2.out.q (by omega)).mono ?_
  rintro e w3 ⟨rfl, hq, hk⟩
  have q3 := Lib.hid (q2.out.set hq hk)
  clear hq hk q2
  go_wp2_with fail
  refine (push_yes q3.out.q q3.out.s (by omega) (by omega) (by decide)).mono ?_
  rintro e w4 ⟨rfl, hq, hk⟩
  have q4 := Lib.hid (q3.out.set hq hk)
  clear hq hk q3
  go_wp2_with fail
  refine (cost_any q4.out.q (by decide) (by decide)).mono ?_
  rintro e w5 ⟨rfl, hb⟩
  have q5 := Lib.hid (q4.out.later hb)
  clear hb q4
  rw [show costs ([] ++ [⟨[], 0, 0, 9⟩] ++ [⟨[], 0, 0, 5⟩]) = 14 from by decide]
  go_wp2_with fail
  refine (pop_some q5.out.q).mono ?_
  rintro e w6 ⟨l1, rfl, hl, hq, hk⟩
  obtain ⟨p1, c1, rfl⟩ := hl.lb.slice
  have q6 := Lib.hid (q5.out.set hq hk)
  clear hq hk q5 hl
  go_wp2_with fail
  have bx := Box.new w6 #[.slice p1 0 c1, .int .i64 0, .int .i64 0, .int .i64 9] 32
  have qa := Lib.hid (q6.out.later ((Below.refl _ w6).alloc (Nat.le_refl _) (.cells #[.slice p1 0 c1, .int .i64 0, .int .i64 0, .int .i64 9] 32)))
  refine (pop_some qa.out.q).mono ?_
  rintro e w7 ⟨l2, rfl, hl, hq, hk⟩
  obtain ⟨p2, c2, rfl⟩ := hl.lb.slice
  have q7 := Lib.hid (qa.out.set hq hk)
  have hne : w6.heap.size ≠ p := Nat.ne_of_gt q6.out.q.lt
  have bx7 := Lib.hid (bx.kept hk hne)
  clear hq hk q6 hl bx qa hne
  go_wp2_with fail
  have by8 := Box.new w7 #[.slice p2 0 c2, .int .i64 0, .int .i64 0, .int .i64 5] 32
  have hb8 := (Below.refl _ w7).alloc (Nat.le_refl _) (.cells #[.slice p2 0 c2, .int .i64 0, .int .i64 0, .int .i64 5] 32)
  have q8 := Lib.hid (q7.out.later hb8)
  refine (pop_nil q8.out.q).mono ?_
  rintro e w9 ⟨rfl, hb⟩
  have q9 := Lib.hid (q8.out.later hb)
  have x9 := ((bx7.out.below hb8).below hb).rd.1
  have y9 := (by8.below hb).rd.1
  have hx9 := ((bx7.out.below hb8).below hb).lt
  have hy9 := (by8.below hb).lt
  clear hb q8 by8 hb8 q7 bx7
  go_wp2_with fail
  go_ret
  exact ⟨rfl, (q9.out.later ((Below.refl _ w9).alloc (Nat.le_refl _) _)).b⟩
end Go.Proofs.Ythligipgmicgfaa
