/- What is owed; the box: New, none, minute, Len; place. -/
import Derived.Test.YtfaafndaelmbfaaOBas
import Derived.Test.YtfaafndaelmbfaaQLast
import Derived.Laws.OwnMore
import Derived.Deep.DeepCutAuto
namespace Go.Proofs.Ytfaafndaelmbfaa
open Go.RowKit
attribute [local go_sem] Oper.semAt_some

/-- what is owed: a message, how often it was sent, when it is next -/
structure Ow where
  m : Mr
  tr : Int
  nx : Int
/-- plain -/
structure Ox where
  m : Ms
  tr : Int
  nx : Int
def Ow.pl (o : Ow) : Ox := ⟨o.m.m, o.tr, o.nx⟩
abbrev encO (o : Ow) : List Value := [.int .u32 o.m.m.rule, .string o.m.m.route, .int .i64 o.m.m.at_, o.m.kv, o.m.sv, .int .i64 o.tr, .int .i64 o.nx]
theorem encO_len (o : Ow) : (encO o).length = 7 := rfl
abbrev oc (o : Ow) : Array Value := #[.int .u32 o.m.m.rule, .string o.m.m.route, .int .i64 o.m.m.at_, o.m.kv, o.m.sv, .int .i64 o.tr, .int .i64 o.nx]
abbrev ov (o : Ow) : Value := .agg #[.int .u32 o.m.m.rule, .string o.m.m.route, .int .i64 o.m.m.at_, o.m.kv, o.m.sv, .int .i64 o.tr, .int .i64 o.nx]
abbrev bv (p : Nat) : Value := .pointer (some ⟨p, 0, none⟩)
/-- a box that was made -/
structure BxIn (S : Nat → Prop) (p : Nat) (W : World) (v : Value) (rs : List Ow) : Prop where
  box : Box W p #[v, .bool true] 50
  own : W.ownsRow 0 36 7 v rs.length (rs.flatMap encO)
  os : ∀ b, v.ownBlock = some b → S b
  mo : ∀ r ∈ rs, Mo (fun b => S b ∧ v.ownBlock ≠ some b) W r.m
  np : ¬ S p
def BxAt (S : Nat → Prop) (p : Nat) (W : World) (xs : List Ox) : Prop := ∃ v rs, rs.map Ow.pl = xs ∧ BxIn S p W v rs
section
variable {S T F : Nat → Prop} {p : Nat} {W W' : World} {xs : List Ox}
theorem BxIn.kept {v : Value} {rs : List Ow} (h : BxIn S p W v rs) (hk : Kept F W W') (hf : ∀ k, k < W.heap.size → S k → ¬ F k) (hp : ¬ F p) : BxIn S p W' v rs :=
  ⟨h.box.kept hk hp, owns_keep h.own (fun b e => hk.block b (h.own.lt b e).2 (hf b (h.own.lt b e).2 (h.os b e))), h.os, fun r hr => (h.mo r hr).kept hk (fun b hb s => hf b hb s.1), h.np⟩
theorem BxAt.kept (h : BxAt S p W xs) (hk : Kept F W W') (hf : ∀ k, k < W.heap.size → S k → ¬ F k) (hp : ¬ F p) : BxAt S p W' xs := by
  obtain ⟨v, rs, h1, h2⟩ := h
  exact ⟨v, rs, h1, h2.kept hk hf hp⟩
theorem BxAt.below (h : BxAt S p W xs) (hb : Below W.heap.size W W') : BxAt S p W' xs := h.kept (F := fun _ => False) (kept_of_below hb) (fun _ _ _ x => x) (fun x => x)
theorem BxAt.mono (h : BxAt S p W xs) (hS : ∀ k, k < W.heap.size → S k → T k) (hp : ¬ T p) : BxAt T p W xs := by
  obtain ⟨v, rs, h1, h2⟩ := h
  exact ⟨v, rs, h1, h2.box, h2.own, fun b e => hS b (h2.own.lt b e).2 (h2.os b e), fun r hr => (h2.mo r hr).mono (fun b hb s => ⟨hS b hb s.1, s.2⟩), hp⟩
theorem BxAt.lt (h : BxAt S p W xs) : p < W.heap.size := by
  obtain ⟨v, rs, _, h2⟩ := h
  exact h2.box.lt
end
/-- a box that nobody made -/
def BNo (W : World) (q : Value) : Prop := q = .pointer none ∨ ∃ p, q = .pointer (some ⟨p, 0, none⟩) ∧ Box W p #[.slice none 0 0, .bool false] 50
theorem BNo.below {W W' : World} {q : Value} (h : BNo W q) (hb : Below W.heap.size W W') : BNo W' q := by
  rcases h with h | ⟨p, h, h1⟩
  · exact .inl h
  · exact .inr ⟨p, h, h1.below hb⟩
theorem none_any {S : Nat → Prop} {p : Nat} {w : World} {xs : List Ox} (h : BxAt S p w xs) : Calls Try.prog 26 #[bv p] w (Is (.bool false) w) := by
  obtain ⟨v, rs, _, h⟩ := h
  obtain ⟨c, z⟩ := h.box.rd
  clear h
  go_enter Try.func26, Try.ntmps26
  go_wp2
  go_ret
  exact ⟨rfl, rfl⟩
theorem none_no {q : Value} {w : World} (h : BNo w q) : Calls Try.prog 26 #[q] w (Is (.bool true) w) := by
  rcases h with rfl | ⟨p, rfl, h1⟩
  · go_enter Try.func26, Try.ntmps26
    go_wp2
    go_ret
    exact ⟨rfl, rfl⟩
  · obtain ⟨c, z⟩ := h1.rd
    clear h1
    go_enter Try.func26, Try.ntmps26
    go_wp2
    go_ret
    exact ⟨rfl, rfl⟩
def NewTo (w : World) (e : Ending) (w' : World) : Prop := e = .returned (bv w.heap.size) ∧ Below w.heap.size w w' ∧ BxAt (fun k => w.heap.size < k) w.heap.size w' []
theorem new_any (w : World) : Calls Try.prog 8 #[] w (NewTo w) := by
  go_enter Try.func8, Try.ntmps8
  go_wp2
  go_ret
  exact ⟨rfl, (Below.refl _ w).alloc (Nat.le_refl _) _, _, [], rfl, Box.new w _ _, World.ownsRow_nil _ _ _ _, (fun b e => by cases e), (fun r hr => by cases hr), by simp⟩
/-- may a number be a minute's? -/
def minB (n : Int) : Bool := decide (0 ≤ n) && decide (n ≤ 1099511627776)
theorem minute_any (n : Int) (w : World) : Calls Try.prog 27 #[.int .i64 n] w (Is (.bool (minB n)) w) := by
  by_cases h0 : 0 ≤ n
  · by_cases h1 : n ≤ 1099511627776
    · have e : minB n = true := by unfold minB; simp [h0, h1]
      rw [e]
      clear e
      go_enter Try.func27, Try.ntmps27
      go_wp2
      go_ret
      exact ⟨by simp <;> omega, rfl⟩
    · have e : minB n = false := by unfold minB; simp [h1]
      rw [e]
      clear e
      go_enter Try.func27, Try.ntmps27
      go_wp2
      go_ret
      exact ⟨by simp <;> omega, rfl⟩
  · have e : minB n = false := by unfold minB; simp [h0]
    rw [e]
    clear e
    go_enter Try.func27, Try.ntmps27
    go_wp2
    go_ret
    exact ⟨by simp <;> omega, rfl⟩
theorem len_any {S : Nat → Prop} {p : Nat} {w : World} {xs : List Ox} (h : BxAt S p w xs) : Calls Try.prog 13 #[bv p] w (Is (.int .i64 xs.length) w) := by
  have HN := Lib.hid (none_any h)
  obtain ⟨v, rs, rfl, h⟩ := h
  obtain ⟨c, z⟩ := h.box.rd
  obtain ⟨p1, c1, rfl⟩ := owns_slice h.own
  clear h
  rw [List.length_map]
  go_enter Try.func13, Try.ntmps13
  go_wp2_with fail
  refine HN.out.mono ?_
  rintro e w1 ⟨rfl, rfl⟩
  go_wp2
  go_ret
  exact ⟨rfl, rfl⟩
theorem len_no {q : Value} {w : World} (h : BNo w q) : Calls Try.prog 13 #[q] w (Is (.int .i64 0) w) := by
  have HN := Lib.hid (none_no h)
  clear h
  go_enter Try.func13, Try.ntmps13
  go_wp2_with fail
  refine HN.out.mono ?_
  rintro e w1 ⟨rfl, rfl⟩
  go_wp2
  go_ret
  exact ⟨rfl, rfl⟩
end Go.Proofs.Ytfaafndaelmbfaa
