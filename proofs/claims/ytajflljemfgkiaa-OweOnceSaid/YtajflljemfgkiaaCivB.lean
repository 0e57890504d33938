/- The iterator over a year's months, and civil.Date, civil.Minute, which range over it. -/
import Derived.Test.YtajflljemfgkiaaCivA
import Derived.RangeFuncNested
import Derived.RangeFuncBound
import Derived.RangeFuncCalls
import Derived.RangeFuncLeaves
import Derived.Shelf.Abstract
import Derived.Shelf.RegionOpen
import Derived.OwnWalkIn
import Derived.TacticsInMore
import Derived.LoopNIn
import Derived.LoopIn
import Derived.RangeFuncFrom
import Derived.StillTailTactics
namespace Go.Proofs.Ytajflljemfgkiaa
open Go.RowKit Go.Shelf
attribute [local go_sem] Oper.semAt_some

abbrev DM := { p : Int × Int // 0 ≤ p.2 ∧ p.2 ≤ 31 }
abbrev encDM (p : DM) : Array Value := #[.int .i64 p.1.1, .int .i64 p.1.2]
def mday (y : Int) (i : Nat) : DM := ⟨((i : Int) + 1, Civ.dim y ((i : Int) + 1)), Civ.dim_le y _⟩
def mto (y : Int) (k : Nat) : List DM := (List.range k).map (mday y)
theorem mto_succ (y : Int) (k : Nat) : mto y (k + 1) = mto y k ++ [mday y k] := by unfold mto; rw [List.range_succ, List.map_append]; rfl

theorem months_any (y : Int) (w : World) :
    Calls Try.prog 40 #[.int .i64 y] w fun e w' => e = .returned (.func (.func 43) #[] #[.pointer (some ⟨w.heap.size, 0, none⟩)]) ∧ w.alloc (.cells #[.int .i64 y] 3) = w' := by
  go_enter Try.func40, Try.ntmps40
  go_wp2
  go_ret
  exact ⟨rfl, rfl⟩

theorem grown_of_below {a w : World} (h : Below a.heap.size a w) (row : Option Nat) : a.grownBy w row := ⟨h.os, h.tape, h.output, h.size, fun i hi _ => h.block i hi⟩

/-- what a round keeps: the year's box -/
def Kb (b : Nat) (A B : World) : Prop := A.heap.size ≤ B.heap.size ∧ ∀ v, A.cell? ⟨b, 0, none⟩ = some v → B.cell? ⟨b, 0, none⟩ = some v
theorem Kb_t {b : Nat} {A B C : World} (h : Kb b A B) (k : Kb b B C) : Kb b A C := ⟨Nat.le_trans h.1 k.1, fun v e => k.2 v (h.2 v e)⟩
theorem Kb_b {b : Nat} {w : World} (_ : b < w.heap.size) (W : World) (l : Nat) (o o' : Obj) (_ : w.heap.size ≤ l) (h : W.heap[l]? = some o) (ho : o.isCells = false) (_ : o.isWalk = false) : Kb b W (W.putObj l o') :=
  ⟨(grownBy_putObj' W l o').size, fun _ e => cell_kept e (grownBy_putObj' W l o') (fun r er => by cases er; exact ⟨o, h, ho⟩)⟩

set_option maxRecDepth 100000 in
set_option maxHeartbeats 2000000 in
theorem months1_stops (n b : Nat) (y : Int) (w : World) (hn : 2 ≤ n) (hb : b < w.heap.size) (hc : w.cell? ⟨b, 0, none⟩ = some (.int .i64 y)) :
    SeqStopsK Fence.wide n Try.prog 43 #[.pointer (some ⟨b, 0, none⟩)] encDM (Kb b) (fun xs => xs = mto y 12) (fun pre => ∃ k : Nat, k < 12 ∧ pre = mto y (k + 1)) 12 w := fun l J Jx W hW hJ hJx hY h0 => by
  have h1n : 1 ≤ n := by omega
  have hcW : W.cell? ⟨b, 0, none⟩ = some (.int .i64 y) := (hW.cell (p := ⟨b, 0, none⟩) (by simp; omega)).trans hc
  refine callsIn_of_wp Try.func43 rfl trivial ?_ rfl
  simp only [Try.ntmps43, List.size_toArray, List.length_cons, List.length_nil, Nat.reduceAdd, Nat.reduceSub, Array.replicate_succ, Array.replicate_zero, List.push_toArray, List.append_toArray, List.nil_append, List.cons_append]
  gi_wp2
  gi_loopw [3] (fun i wr => ∃ k : Nat, k ≤ 12 ∧ i = .int .i64 ((k : Int) + 1) ∧ J (mto y k) wr ∧ b < wr.heap.size ∧ wr.cell? ⟨b, 0, none⟩ = some (.int .i64 y)) (fun i wr => 13 - (intOf i).toNat)
  case atStart =>
    exact ⟨0, by omega, rfl, h0, by have := hW.size; omega, hcW⟩
  case round =>
    obtain ⟨k, hk, rfl, hJs, hs, hcr⟩ := hrel
    by_cases h12 : k < 12
    · gi_wp2
      refine ⟨trivial, ?_⟩
      refine (callsIn_wide.2 (days_any _ _ _)).mono ?_
      rintro e w1 ⟨rfl, hb1⟩
      have hJ1 : J (mto y k) w1 := hJ _ _ _ none hJs (grown_of_below hb1 none) (fun r e => by cases e)
      have hc1 : w1.cell? ⟨b, 0, none⟩ = some (.int .i64 y) := (hb1.cell (p := ⟨b, 0, none⟩) (by simp; omega)).trans hcr
      have hs1 : b < w1.heap.size := by have := hb1.size; omega
      obtain ⟨fn, tmps, assign, body, hy, hR⟩ := hY (mto y k) (mday y k) w1 hJ1 (by simp [mto]; omega)
      dsimp only [mday] at hy
      gi_wp2
      refine hR.mono ?_
      rintro e W3 (⟨rfl, hJ3, hk3⟩ | ⟨rfl, hJx3⟩)
      · gi_wp2
        go_roundw
        case rel => exact ⟨k + 1, by omega, by go_num, by rw [mto_succ]; exact hJ3, by have := hk3.1; omega, hk3.2 _ hc1⟩
        case measure => simp [intOf]; omega
      · gi_wp2
        go_end0
        exact ⟨⟨_, rfl⟩, .inr ⟨mto y (k + 1), ⟨k, h12, rfl⟩, by rw [mto_succ]; exact hJx3⟩⟩
    · have h13 : 12 ≤ k := by omega
      clear h12
      gi_wp2
      refine ⟨trivial, ?_⟩
      gi_wp2
      refine ⟨fun _ h => (by cases h), ?_⟩
      gi_wp2
      go_end0
      obtain rfl : k = 12 := by omega
      exact ⟨⟨_, rfl⟩, .inl ⟨_, rfl, hJs⟩⟩

end Go.Proofs.Ytajflljemfgkiaa
