/- drr: none, may, serve, Serve -/
import Derived.Test.YthligipgmicgfaaQAwk
namespace Go.Proofs.Ythligipgmicgfaa
open Go.RowKit
attribute [local go_sem] Oper.semAt_some

/-- what is served by a deficit: the items, those that wait, what is left -/
def sv : List It → Int → List It × List It × Int
  | [], _ => ([], [], 0)
  | x :: xs, d => if x.cost ≤ d then (x :: (sv xs (d - x.cost)).1, (sv xs (d - x.cost)).2.1, (sv xs (d - x.cost)).2.2) else ([], x :: xs, d)
theorem sv_nil (d : Int) : sv [] d = ([], [], 0) := rfl
theorem sv_yes {x : It} {xs : List It} {d : Int} (h : x.cost ≤ d) : sv (x :: xs) d = (x :: (sv xs (d - x.cost)).1, (sv xs (d - x.cost)).2.1, (sv xs (d - x.cost)).2.2) := by rw [sv, if_pos h]
theorem sv_no {x : It} {xs : List It} {d : Int} (h : ¬ x.cost ≤ d) : sv (x :: xs) d = ([], x :: xs, d) := by rw [sv, if_neg h]
theorem sv_app (xs : List It) (d : Int) : (sv xs d).1 ++ (sv xs d).2.1 = xs := by
  induction xs generalizing d with
  | nil => rfl
  | cons x xs ih =>
    by_cases h : x.cost ≤ d
    · rw [sv_yes h]; simp [ih]
    · rw [sv_no h]; rfl

def Made (S : Nat → Prop) (p : Nat) (v : Value) (xs : List It) (w : World) (e : Ending) (w' : World) : Prop := e = .returned v ∧ QAt S p w' xs ∧ Kept (fun k => k = p) w w'
theorem drrnone_any {S : Nat → Prop} {p : Nat} {w : World} {xs : List It} (h : QAt S p w xs) : Calls Try.prog 38 #[qv p] w (Made S p (.bool false) xs w) := by
  have HP := Lib.hid (push_bad (c := 0) h (by omega))
  clear h
  go_enter Try.func38, Try.ntmps38
  go_wp2_with fail
  refine HP.out.mono ?_
  rintro e w1 ⟨rfl, hq, hk⟩
  have HQ := Lib.hid hq
  have HK := Lib.hid hk
  clear hq hk
  go_wp2_with fail
  go_ret
  exact ⟨rfl, HQ.out, HK.out⟩
theorem drrnone_no {q : Value} {w : World} (h : QNo w q) : Calls Try.prog 38 #[q] w (Tells (.bool true) w) := by
  have HP := Lib.hid (push_no (lv := .slice none 0 0) (x := ⟨[], 0, 0, 0⟩) h)
  clear h
  go_enter Try.func38, Try.ntmps38
  go_wp2_with fail
  refine HP.out.mono ?_
  rintro e w1 ⟨rfl, hb⟩
  go_wp2_with fail
  go_ret
  exact ⟨rfl, hb⟩
def mayB (d : Int) : Bool := decide (0 ≤ d) && decide (d ≤ 256)
theorem may_any (d : Int) (w : World) : Calls Try.prog 39 #[.int .i64 d] w (Is (.bool (mayB d)) w) := by
  have hm : mayB d = (decide (0 ≤ d) && decide (d ≤ 256)) := rfl
  obtain ⟨b, hb⟩ : ∃ b, mayB d = b := ⟨_, rfl⟩
  rw [hb] at hm ⊢
  have HM := Lib.hid hm
  clear hb hm
  by_cases h : 0 ≤ d
  · have h1 : decide (0 ≤ d) = true := decide_eq_true h
    have HM2 : Hid (b = decide (d ≤ 256)) := Lib.hid (by rw [HM.out, h1]; rfl)
    go_enter Try.func39, Try.ntmps39
    go_wp2_with fail
    go_ret
    exact ⟨by rw [HM2.out]; rfl, rfl⟩
  · have h1 : decide (0 ≤ d) = false := decide_eq_false h
    have HM2 : Hid (b = false) := Lib.hid (by rw [HM.out, h1]; rfl)
    go_enter Try.func39, Try.ntmps39
    go_wp2_with fail
    go_ret
    exact ⟨by rw [HM2.out]; rfl, rfl⟩
end Go.Proofs.Ythligipgmicgfaa
