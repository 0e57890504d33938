/- The outbox's messages: the plain record, its cells; boxes; slices.Clone, outbox.twin. (Printed by tools/outbas.py out of XNBas.) -/
import Derived.Test.YtfaafndaelmbfaaChecked
import Derived.Test.YtfaafndaelmbfaaQApp
import Derived.WalkKit
import Derived.WalkSpells
import Derived.OwnWalk
import Derived.ArgAppend
import Derived.Lib.Hide
import Derived.Outline
import Derived.BigQuiet
import Derived.Deep.QuietTactic
import Derived.Deep.RegionWith
import Derived.Deep.RegionHeld3
import Derived.StillTailTactics
namespace Go.Proofs.Ytfaafndaelmbfaa
open Go.RowKit
attribute [local go_sem] Oper.semAt_some

/-- a block known whole -/
def Box (W : World) (b : Nat) (cs : Array Value) (t : TypeId) : Prop := W.heap[b]? = some (.cells cs t (0, 0))
theorem Box.below {W W' : World} {b : Nat} {cs : Array Value} {t : TypeId} (h : Box W b cs t) (hb : Below W.heap.size W W') : Box W' b cs t := (hb.block _ (lt_block h)).trans h
theorem Box.lt {W : World} {b : Nat} {cs : Array Value} {t : TypeId} (h : Box W b cs t) : b < W.heap.size := lt_block h
theorem Box.rd {W : World} {b : Nat} {cs : Array Value} {t : TypeId} (h : Box W b cs t) : (∀ i, W.cell? ⟨b, i, none⟩ = cs[i]?) ∧ ∀ i, W.frozen? ⟨b, i, none⟩ = false := ⟨cell_block h, frozen_block h⟩
theorem Box.kept {F : Nat → Prop} {W W' : World} {b : Nat} {cs : Array Value} {t : TypeId} (h : Box W b cs t) (hk : Kept F W W') (hf : ¬ F b) : Box W' b cs t := (hk.block _ (lt_block h) hf).trans h
theorem Box.set {W : World} {b i : Nat} {cs : Array Value} {t : TypeId} (h : Box W b cs t) (v : Value) : Box (W.setCell ⟨b, i, none⟩ v) b (cs.setIfInBounds i v) t := set_block v h
theorem Box.other {W : World} {b c i : Nat} {cs : Array Value} {t : TypeId} (h : Box W b cs t) (v : Value) (hn : b ≠ c) : Box (W.setCell ⟨c, i, none⟩ v) b cs t := set_other v h hn
theorem Box.new (W : World) (cs : Array Value) (t : TypeId) : Box (W.alloc (.cells cs t)) W.heap.size cs t := heap_alloc_new W _
theorem Box.alloc {W : World} {b : Nat} {cs : Array Value} {t : TypeId} (h : Box W b cs t) (o : Obj) : Box (W.alloc o) b cs t := (Below.heap_alloc _ _ _ (lt_block h)).trans h

def Is (v : Value) (w : World) (e : Ending) (w' : World) : Prop := e = .returned v ∧ w = w'
def Tells (v : Value) (w : World) (e : Ending) (w' : World) : Prop := e = .returned v ∧ Below w.heap.size w w'

/-- a message, plain -/
structure Ms where
  rule : Int
  route : ByteArray
  at_ : Int
  ks : List ByteArray
  ss : List Int
/-- a message with the values of its two slices -/
structure Mr where
  kv : Value
  sv : Value
  m : Ms
abbrev encS (s : ByteArray) : List Value := [.string s]
theorem encS_len (s : ByteArray) : (encS s).length = 1 := rfl
abbrev encJ (n : Int) : List Value := [.int .i64 n]
theorem encJ_len (n : Int) : (encJ n).length = 1 := rfl
abbrev encM (r : Mr) : List Value := [.int .u32 r.m.rule, .string r.m.route, .int .i64 r.m.at_, r.kv, r.sv]
theorem encM_len (r : Mr) : (encM r).length = 5 := rfl
abbrev mc (r : Mr) : Array Value := #[.int .u32 r.m.rule, .string r.m.route, .int .i64 r.m.at_, r.kv, r.sv]
abbrev mv (r : Mr) : Value := .agg #[.int .u32 r.m.rule, .string r.m.route, .int .i64 r.m.at_, r.kv, r.sv]
abbrev zm : Array Value := #[.int .u32 0, .string ⟨#[]⟩, .int .i64 0, .slice none 0 0, .slice none 0 0]
def zeroM : Mr := ⟨.slice none 0 0, .slice none 0 0, ⟨0, ⟨#[]⟩, 0, [], []⟩⟩
/-- its lists -/
structure Mo (S : Nat → Prop) (W : World) (r : Mr) : Prop where
  k : Sl S W r.kv 1 encS r.m.ks
  s : Sl S W r.sv 1 encJ r.m.ss
section
variable {S T F : Nat → Prop} {W W' : World} {r : Mr}
theorem Mo.below (h : Mo S W r) (hb : Below W.heap.size W W') : Mo S W' r := ⟨h.k.below hb, h.s.below hb⟩
theorem Mo.kept (h : Mo S W r) (hk : Kept F W W') (hf : ∀ k, k < W.heap.size → S k → ¬ F k) : Mo S W' r := ⟨h.k.kept hk hf, h.s.kept hk hf⟩
theorem Mo.mono (h : Mo S W r) (hS : ∀ k, k < W.heap.size → S k → T k) : Mo T W r := ⟨h.k.mono hS, h.s.mono hS⟩
theorem Mo.zero (S : Nat → Prop) (W : World) : Mo S W zeroM := ⟨Sl.nil S W, Sl.nil S W⟩
theorem Sl.oneCell {α : Type} {v : Value} {size : Nat} {enc : α → List Value} {xs : List α} (h : Sl S W v size enc xs) : v.oneCell' = true := by
  rcases h with ⟨rfl, _⟩ | ⟨a, cap, rfl, _⟩ <;> rfl
theorem Mo.oneCell (h : Mo S W r) : ∀ u ∈ encM r, u.oneCell' = true := by
  intro u hu
  have h1 := h.k.oneCell
  have h2 := h.s.oneCell
  simp only [List.mem_cons, List.not_mem_nil, or_false] at hu
  rcases hu with rfl | rfl | rfl | rfl | rfl
  · rfl
  · rfl
  · rfl
  · exact h1
  · exact h2
/-- what a message may hold: few keys -/
def Few (m : Ms) : Prop := m.ks.length ≤ 100000 ∧ m.ss.length ≤ 100000
/-- lists that the call has made itself -/
structure Mw (base : Nat) (W : World) (r : Mr) : Prop where
  k : W.ownsRow base 9 1 r.kv r.m.ks.length (r.m.ks.flatMap encS)
  s : W.ownsRow base 3 1 r.sv r.m.ss.length (r.m.ss.flatMap encJ)
  ne : ∀ b, r.kv.ownBlock = some b → r.sv.ownBlock ≠ some b
theorem Mw.mo {base : Nat} (h : Mw base W r) : Mo (fun b => base ≤ b) W r :=
  ⟨(Sl.owned encS_len h.k).mono (fun b _ e => (h.k.lt b e).1), (Sl.owned encJ_len h.s).mono (fun b _ e => (h.s.lt b e).1)⟩
theorem Mw.kept {base : Nat} (h : Mw base W r) (hk : Kept F W W') (hf : ∀ b, base ≤ b → ¬ F b) : Mw base W' r :=
  ⟨owns_keep h.k (fun b e => hk.block b (h.k.lt b e).2 (hf b (h.k.lt b e).1)), owns_keep h.s (fun b e => hk.block b (h.s.lt b e).2 (hf b (h.s.lt b e).1)), h.ne⟩
theorem Mw.below {base : Nat} (h : Mw base W r) (hb : Below W.heap.size W W') : Mw base W' r := h.kept (F := fun _ => False) (kept_of_below hb) (fun _ _ x => x)
theorem Mw.lower {base base' : Nat} (h : Mw base W r) (hb : base' ≤ base) : Mw base' W r := ⟨owns_lower h.k hb, owns_lower h.s hb, h.ne⟩
end
/-- a list in memory of its own is handed back -/
def OwnsTo (e : TypeId) (xs : List Value) (n : Nat) (w : World) (en : Ending) (w' : World) : Prop := ∃ v, en = .returned v ∧ w'.ownsRow w.heap.size e 1 v n xs ∧ Below w.heap.size w w'
theorem info_string : (Try.prog.info? 9).map (fun i => (i.zero, i.size, i.bytes)) = some (some (.string ⟨#[]⟩), 1, 16) := by kernel_rfl
theorem info_int : (Try.prog.info? 3).map (fun i => (i.zero, i.size, i.bytes)) = some (some (.int .i64 0), 1, 8) := by kernel_rfl
theorem info_msg : (Try.prog.info? 31).map (fun i => (i.zero, i.size, i.bytes)) = some (some (.agg zm), 5, 80) := by kernel_rfl

set_option maxRecDepth 100000 in
theorem cloneS_any {S : Nat → Prop} {v : Value} {xs : List ByteArray} {w : World} (h : Sl S w v 1 encS xs) (hn : xs.length ≤ 100000) :
    Calls Try.prog 38 #[v] w (OwnsTo 9 (xs.flatMap encS) xs.length w) := by
  obtain ⟨i0, hi, hz0, hz1, hz2⟩ := info_parts info_string
  have HI := Lib.hid hi
  rcases h with ⟨rfl, rfl⟩ | ⟨a, cap, rfl, h1, h2, h3, h4⟩
  · clear hi
    have he := fun w' => run_eql_nil_slice (P := Try.prog) w' 28 9 none 0 0 0 0 Try.underlying28
    go_enter Try.func38, Try.ntmps38
    go_wp2
    go_ret
    exact ⟨_, rfl, World.ownsRow_nil _ _ _ _, Below.refl _ _⟩
  · have hb0 : Below w.heap.size w (w.alloc (.cells #[] 9)) := (Below.refl _ w).alloc (Nat.le_refl _) _
    have h : Sl S w (.slice (some a) xs.length cap) 1 encS xs := .inr ⟨a, cap, rfl, h1, h2, h3, h4⟩
    have H := Lib.hid (h.below hb0)
    have HO := Lib.hid (World.ownsRow_lit (size := 1) (base := w.heap.size) (e := 9) w #[] 0 (Nat.le_refl _) (by decide) rfl)
    have HB := Lib.hid hb0
    have he := fun w' => Lib.run_eql_slice_nil (P := Try.prog) w' 28 9 (some a) xs.length cap 0 0 Try.underlying28
    clear h h1 h2 h3 h4 hi hb0
    go_enter Try.func38, Try.ntmps38
    go_wp2_with (at_builtin; refine wpList_append_sl encS_len rfl (.tmp 5) (.tmp 6) 28 rfl w.heap.size 9 i0 _ 16 Try.underlying28 HI.out hz0 hz1 hz2 rfl (by decide) (v := .slice (some ⟨w.heap.size, 0, none⟩) 0 0) (xs := []) (ys := xs) rfl rfl HO.out H.out (by simp [Value.oneCell']) (by unfold maxLen; simp; omega) (by simp; omega) HB.out.size ?_; intro v' w1 hown hk hat)
    go_ret
    rw [List.nil_append] at hown
    exact ⟨_, rfl, hown, HB.out.trans (hk.below (fun k e => by cases e; exact Nat.le_refl _) HB.out.size)⟩
set_option maxRecDepth 100000 in
theorem cloneI_any {S : Nat → Prop} {v : Value} {xs : List Int} {w : World} (h : Sl S w v 1 encJ xs) (hn : xs.length ≤ 100000) :
    Calls Try.prog 39 #[v] w (OwnsTo 3 (xs.flatMap encJ) xs.length w) := by
  obtain ⟨i0, hi, hz0, hz1, hz2⟩ := info_parts info_int
  have HI := Lib.hid hi
  rcases h with ⟨rfl, rfl⟩ | ⟨a, cap, rfl, h1, h2, h3, h4⟩
  · clear hi
    have he := fun w' => run_eql_nil_slice (P := Try.prog) w' 29 3 none 0 0 0 0 Try.underlying29
    go_enter Try.func39, Try.ntmps39
    go_wp2
    go_ret
    exact ⟨_, rfl, World.ownsRow_nil _ _ _ _, Below.refl _ _⟩
  · have hb0 : Below w.heap.size w (w.alloc (.cells #[] 3)) := (Below.refl _ w).alloc (Nat.le_refl _) _
    have h : Sl S w (.slice (some a) xs.length cap) 1 encJ xs := .inr ⟨a, cap, rfl, h1, h2, h3, h4⟩
    have H := Lib.hid (h.below hb0)
    have HO := Lib.hid (World.ownsRow_lit (size := 1) (base := w.heap.size) (e := 3) w #[] 0 (Nat.le_refl _) (by decide) rfl)
    have HB := Lib.hid hb0
    have he := fun w' => Lib.run_eql_slice_nil (P := Try.prog) w' 29 3 (some a) xs.length cap 0 0 Try.underlying29
    clear h h1 h2 h3 h4 hi hb0
    go_enter Try.func39, Try.ntmps39
    go_wp2_with (at_builtin; refine wpList_append_sl encJ_len rfl (.tmp 5) (.tmp 6) 29 rfl w.heap.size 3 i0 _ 8 Try.underlying29 HI.out hz0 hz1 hz2 rfl (by decide) (v := .slice (some ⟨w.heap.size, 0, none⟩) 0 0) (xs := []) (ys := xs) rfl rfl HO.out H.out (by simp [Value.oneCell']) (by unfold maxLen; simp; omega) (by simp; omega) HB.out.size ?_; intro v' w1 hown hk hat)
    go_ret
    rw [List.nil_append] at hown
    exact ⟨_, rfl, hown, HB.out.trans (hk.below (fun k e => by cases e; exact Nat.le_refl _) HB.out.size)⟩
/-- a message whose lists are the caller's own -/
def TwinTo (m : Ms) (w : World) (en : Ending) (w' : World) : Prop := ∃ r, en = .returned (mv r) ∧ r.m = m ∧ Mw w.heap.size w' r ∧ Below w.heap.size w w'
/-- twin's own box -/
structure TB (x : Mr) (w W : World) : Prop where
  below : Below w.heap.size w W
  lt : w.heap.size + 1 < W.heap.size
  m1 : Box W w.heap.size (mc x) 31
  m2 : Box W (w.heap.size + 1) zm 31
theorem TB.later {x : Mr} {w W W' : World} (h : TB x w W) (hb : Below W.heap.size W W') : TB x w W' :=
  ⟨h.below.trans (hb.mono h.below.size), Nat.lt_of_lt_of_le h.lt hb.size, h.m1.below hb, h.m2.below hb⟩

set_option maxRecDepth 100000 in
set_option maxHeartbeats 1000000 in
theorem twin_any {S : Nat → Prop} {x : Mr} {w : World} (h : Mo S w x) (hf : Few x.m) :
    Calls Try.prog 29 #[mv x] w (TwinTo x.m w) := by
  have Q1 : Hid (∀ W : World, Below w.heap.size w W → Calls Try.prog 38 #[x.kv] W (OwnsTo 9 (x.m.ks.flatMap encS) x.m.ks.length W)) := Lib.hid fun W hb => cloneS_any (h.k.below hb) (by have := hf.1; omega)
  have Q2 : Hid (∀ W : World, Below w.heap.size w W → Calls Try.prog 39 #[x.sv] W (OwnsTo 3 (x.m.ss.flatMap encJ) x.m.ss.length W)) := Lib.hid fun W hb => cloneI_any (h.s.below hb) (by have := hf.2; omega)
  clear h hf
  go_enter Try.func29, Try.ntmps29
  go_wp2
  refine code_gen (fun W => TB x w W) ⟨((Below.refl _ w).alloc (Nat.le_refl _) _).alloc (by simp) _, by simp, (Box.new w _ _).alloc _, (by have e := Box.new (w.alloc (.cells (mc x) 31)) zm 31; rw [World.size_alloc] at e; exact e)⟩ ?_
  intro W T
  have T := T.later (Below.refl _ W).drew
  have hWl := T.lt
  obtain ⟨c0, fz⟩ := T.m1.rd
  go_region_with (first | (go_at_call 38; refine Calls.mono (Q1.out _ T.below) ?_; rintro e w1 ⟨k1, rfl, ho1, hb1⟩; obtain ⟨p1, q1, rfl⟩ := owns_slice ho1; have T := T.later hb1; obtain ⟨c0, fz⟩ := T.m1.rd) | (go_at_call 39; refine Calls.mono (Q2.out _ T.below) ?_; rintro e w2 ⟨v1, rfl, ho2, hb2⟩; obtain ⟨p2, q2, rfl⟩ := owns_slice ho2; have T := T.later hb2; obtain ⟨c0, fz⟩ := T.m1.rd))
  all_goals obtain ⟨z0, zz⟩ := T.m2.rd
  all_goals go_wp2
  all_goals
    refine bodyPost_gen (fun W' => Kept (fun b => b = w.heap.size ∨ b = w.heap.size + 1) w2 W' ∧ Box W' (w.heap.size + 1) #[.int .u32 x.m.rule, .string x.m.route, .int .i64 x.m.at_, .slice p1 x.m.ks.length q1, .slice p2 x.m.ss.length q2] 31) ⟨?_, ?_⟩ ?_
    · exact (((((((Kept.refl _ w2).setCell _ _ (by simp)).setCell _ _ (by simp)).setCell _ _ (by simp)).setCell _ _ (by simp)).setCell _ _ (by simp)).setCell _ _ (by simp)).setCell _ _ (by simp)
    · exact (((((((T.m2.other _ (by omega)).other _ (by omega)).set _).set _).set _).set _).set _)
    rintro W' ⟨hk, hm⟩
    obtain ⟨r0, _⟩ := hm.rd
    refine bodyPost_ret (v := .agg #[.int .u32 x.m.rule, .string x.m.route, .int .i64 x.m.at_, .slice p1 x.m.ks.length q1, .slice p2 x.m.ss.length q2]) ?_ rfl ?_
    · simp [results, Try.results29, go_sem, r0]
    · refine ⟨⟨.slice p1 x.m.ks.length q1, .slice p2 x.m.ss.length q2, x.m⟩, rfl, rfl, ⟨owns_lower (owns_keep (owns_keep ho1 (fun b e => hb2.block b (ho1.lt b e).2)) (fun b e => hk.block b (Nat.lt_of_lt_of_le (ho1.lt b e).2 hb2.size) (by have := (ho1.lt b e).1; omega))) (by omega), owns_lower (owns_keep ho2 (fun b e => hk.block b (ho2.lt b e).2 (by have := (ho2.lt b e).1; have := hb1.size; omega))) (by have := hb1.size; omega), fun b e1 e2 => ?_⟩, T.below.trans (hk.below (fun i hi => by omega) T.below.size)⟩
      have := (ho1.lt b e1).2
      have := (ho2.lt b e2).1
      omega
end Go.Proofs.Ytfaafndaelmbfaa
