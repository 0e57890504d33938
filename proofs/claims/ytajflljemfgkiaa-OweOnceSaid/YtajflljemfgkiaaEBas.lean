/- The owe's data: boxes, messages, alerts; slices.Clone of strings. (Printed by tools/owebas.py out of XOBas.) -/
import Derived.Test.YtajflljemfgkiaaChecked
import Derived.Test.YtajflljemfgkiaaQApp
import Derived.WalkKit
import Derived.WalkSpells
import Derived.OwnWalk
import Derived.ArgAppend
import Derived.Lib.Hide
import Derived.Outline
import Derived.BigQuiet
import Derived.Deep.QuietTactic
import Derived.Deep.RegionWith
import Derived.Deep.RegionHeld3
import Derived.StillTailTactics
namespace Go.Proofs.Ytajflljemfgkiaa
open Go.RowKit
attribute [local go_sem] Oper.semAt_some

/-- a block known whole -/
def Box (W : World) (b : Nat) (cs : Array Value) (t : TypeId) : Prop := W.heap[b]? = some (.cells cs t (0, 0))
theorem Box.below {W W' : World} {b : Nat} {cs : Array Value} {t : TypeId} (h : Box W b cs t) (hb : Below W.heap.size W W') : Box W' b cs t := (hb.block _ (lt_block h)).trans h
theorem Box.lt {W : World} {b : Nat} {cs : Array Value} {t : TypeId} (h : Box W b cs t) : b < W.heap.size := lt_block h
theorem Box.rd {W : World} {b : Nat} {cs : Array Value} {t : TypeId} (h : Box W b cs t) : (∀ i, W.cell? ⟨b, i, none⟩ = cs[i]?) ∧ ∀ i, W.frozen? ⟨b, i, none⟩ = false := ⟨cell_block h, frozen_block h⟩
theorem Box.kept {F : Nat → Prop} {W W' : World} {b : Nat} {cs : Array Value} {t : TypeId} (h : Box W b cs t) (hk : Kept F W W') (hf : ¬ F b) : Box W' b cs t := (hk.block _ (lt_block h) hf).trans h
theorem Box.set {W : World} {b i : Nat} {cs : Array Value} {t : TypeId} (h : Box W b cs t) (v : Value) : Box (W.setCell ⟨b, i, none⟩ v) b (cs.setIfInBounds i v) t := set_block v h
theorem Box.other {W : World} {b c i : Nat} {cs : Array Value} {t : TypeId} (h : Box W b cs t) (v : Value) (hn : b ≠ c) : Box (W.setCell ⟨c, i, none⟩ v) b cs t := set_other v h hn
theorem Box.new (W : World) (cs : Array Value) (t : TypeId) : Box (W.alloc (.cells cs t)) W.heap.size cs t := heap_alloc_new W _
theorem Box.alloc {W : World} {b : Nat} {cs : Array Value} {t : TypeId} (h : Box W b cs t) (o : Obj) : Box (W.alloc o) b cs t := (Below.heap_alloc _ _ _ (lt_block h)).trans h

def Is (v : Value) (w : World) (e : Ending) (w' : World) : Prop := e = .returned v ∧ w = w'
def Tells (v : Value) (w : World) (e : Ending) (w' : World) : Prop := e = .returned v ∧ Below w.heap.size w w'

/-- a message, plain -/
structure Ms where
  rule : Int
  route : ByteArray
  at_ : Int
  ks : List ByteArray
  ss : List Int
/-- a message with the values of its two slices -/
structure Mr where
  kv : Value
  sv : Value
  m : Ms
abbrev encS (s : ByteArray) : List Value := [.string s]
theorem encS_len (s : ByteArray) : (encS s).length = 1 := rfl
abbrev encJ (n : Int) : List Value := [.int .i64 n]
theorem encJ_len (n : Int) : (encJ n).length = 1 := rfl
abbrev encM (r : Mr) : List Value := [.int .u32 r.m.rule, .string r.m.route, .int .i64 r.m.at_, r.kv, r.sv]
theorem encM_len (r : Mr) : (encM r).length = 5 := rfl
abbrev mc (r : Mr) : Array Value := #[.int .u32 r.m.rule, .string r.m.route, .int .i64 r.m.at_, r.kv, r.sv]
abbrev mv (r : Mr) : Value := .agg #[.int .u32 r.m.rule, .string r.m.route, .int .i64 r.m.at_, r.kv, r.sv]
abbrev zm : Array Value := #[.int .u32 0, .string ⟨#[]⟩, .int .i64 0, .slice none 0 0, .slice none 0 0]
def zeroM : Mr := ⟨.slice none 0 0, .slice none 0 0, ⟨0, ⟨#[]⟩, 0, [], []⟩⟩
/-- its lists -/
structure Mo (S : Nat → Prop) (W : World) (r : Mr) : Prop where
  k : Sl S W r.kv 1 encS r.m.ks
  s : Sl S W r.sv 1 encJ r.m.ss
section
variable {S T F : Nat → Prop} {W W' : World} {r : Mr}
theorem Mo.below (h : Mo S W r) (hb : Below W.heap.size W W') : Mo S W' r := ⟨h.k.below hb, h.s.below hb⟩
theorem Mo.kept (h : Mo S W r) (hk : Kept F W W') (hf : ∀ k, k < W.heap.size → S k → ¬ F k) : Mo S W' r := ⟨h.k.kept hk hf, h.s.kept hk hf⟩
theorem Mo.mono (h : Mo S W r) (hS : ∀ k, k < W.heap.size → S k → T k) : Mo T W r := ⟨h.k.mono hS, h.s.mono hS⟩
theorem Mo.zero (S : Nat → Prop) (W : World) : Mo S W zeroM := ⟨Sl.nil S W, Sl.nil S W⟩
theorem Sl.oneCell {α : Type} {v : Value} {size : Nat} {enc : α → List Value} {xs : List α} (h : Sl S W v size enc xs) : v.oneCell' = true := by
  rcases h with ⟨rfl, _⟩ | ⟨a, cap, rfl, _⟩ <;> rfl
theorem Mo.oneCell (h : Mo S W r) : ∀ u ∈ encM r, u.oneCell' = true := by
  intro u hu
  have h1 := h.k.oneCell
  have h2 := h.s.oneCell
  simp only [List.mem_cons, List.not_mem_nil, or_false] at hu
  rcases hu with rfl | rfl | rfl | rfl | rfl
  · rfl
  · rfl
  · rfl
  · exact h1
  · exact h2
/-- what a message may hold: few keys -/
def Few (m : Ms) : Prop := m.ks.length ≤ 100000 ∧ m.ss.length ≤ 100000
/-- lists that the call has made itself -/
structure Mw (base : Nat) (W : World) (r : Mr) : Prop where
  k : W.ownsRow base 9 1 r.kv r.m.ks.length (r.m.ks.flatMap encS)
  s : W.ownsRow base 3 1 r.sv r.m.ss.length (r.m.ss.flatMap encJ)
  ne : ∀ b, r.kv.ownBlock = some b → r.sv.ownBlock ≠ some b
theorem Mw.mo {base : Nat} (h : Mw base W r) : Mo (fun b => base ≤ b) W r :=
  ⟨(Sl.owned encS_len h.k).mono (fun b _ e => (h.k.lt b e).1), (Sl.owned encJ_len h.s).mono (fun b _ e => (h.s.lt b e).1)⟩
theorem Mw.kept {base : Nat} (h : Mw base W r) (hk : Kept F W W') (hf : ∀ b, base ≤ b → ¬ F b) : Mw base W' r :=
  ⟨owns_keep h.k (fun b e => hk.block b (h.k.lt b e).2 (hf b (h.k.lt b e).1)), owns_keep h.s (fun b e => hk.block b (h.s.lt b e).2 (hf b (h.s.lt b e).1)), h.ne⟩
theorem Mw.below {base : Nat} (h : Mw base W r) (hb : Below W.heap.size W W') : Mw base W' r := h.kept (F := fun _ => False) (kept_of_below hb) (fun _ _ x => x)
theorem Mw.lower {base base' : Nat} (h : Mw base W r) (hb : base' ≤ base) : Mw base' W r := ⟨owns_lower h.k hb, owns_lower h.s hb, h.ne⟩
end
/-- a list in memory of its own is handed back -/
def OwnsTo (e : TypeId) (xs : List Value) (n : Nat) (w : World) (en : Ending) (w' : World) : Prop := ∃ v, en = .returned v ∧ w'.ownsRow w.heap.size e 1 v n xs ∧ Below w.heap.size w w'
theorem info_string : (Try.prog.info? 9).map (fun i => (i.zero, i.size, i.bytes)) = some (some (.string ⟨#[]⟩), 1, 16) := by kernel_rfl
theorem info_int : (Try.prog.info? 3).map (fun i => (i.zero, i.size, i.bytes)) = some (some (.int .i64 0), 1, 8) := by kernel_rfl
theorem info_msg : (Try.prog.info? 33).map (fun i => (i.zero, i.size, i.bytes)) = some (some (.agg zm), 5, 80) := by kernel_rfl

set_option maxRecDepth 100000 in
theorem cloneS_any {S : Nat → Prop} {v : Value} {xs : List ByteArray} {w : World} (h : Sl S w v 1 encS xs) (hn : xs.length ≤ 100000) :
    Calls Try.prog 27 #[v] w (OwnsTo 9 (xs.flatMap encS) xs.length w) := by
  obtain ⟨i0, hi, hz0, hz1, hz2⟩ := info_parts info_string
  have HI := Lib.hid hi
  rcases h with ⟨rfl, rfl⟩ | ⟨a, cap, rfl, h1, h2, h3, h4⟩
  · clear hi
    have he := fun w' => run_eql_nil_slice (P := Try.prog) w' 23 9 none 0 0 0 0 Try.underlying23
    go_enter Try.func27, Try.ntmps27
    go_wp2
    go_ret
    exact ⟨_, rfl, World.ownsRow_nil _ _ _ _, Below.refl _ _⟩
  · have hb0 : Below w.heap.size w (w.alloc (.cells #[] 9)) := (Below.refl _ w).alloc (Nat.le_refl _) _
    have h : Sl S w (.slice (some a) xs.length cap) 1 encS xs := .inr ⟨a, cap, rfl, h1, h2, h3, h4⟩
    have H := Lib.hid (h.below hb0)
    have HO := Lib.hid (World.ownsRow_lit (size := 1) (base := w.heap.size) (e := 9) w #[] 0 (Nat.le_refl _) (by decide) rfl)
    have HB := Lib.hid hb0
    have he := fun w' => Lib.run_eql_slice_nil (P := Try.prog) w' 23 9 (some a) xs.length cap 0 0 Try.underlying23
    clear h h1 h2 h3 h4 hi hb0
    go_enter Try.func27, Try.ntmps27
    go_wp2_with (at_builtin; refine wpList_append_sl encS_len rfl (.tmp 5) (.tmp 6) 23 rfl w.heap.size 9 i0 _ 16 Try.underlying23 HI.out hz0 hz1 hz2 rfl (by decide) (v := .slice (some ⟨w.heap.size, 0, none⟩) 0 0) (xs := []) (ys := xs) rfl rfl HO.out H.out (by simp [Value.oneCell']) (by unfold maxLen; simp; omega) (by simp; omega) HB.out.size ?_; intro v' w1 hown hk hat)
    go_ret
    rw [List.nil_append] at hown
    exact ⟨_, rfl, hown, HB.out.trans (hk.below (fun k e => by cases e; exact Nat.le_refl _) HB.out.size)⟩
/-- an alert -/
structure Al where
  rule : Int
  by_ : ByteArray
  state : Int
  since : Int
  told : Int
abbrev encA (x : Al) : List Value := [.int .u32 x.rule, .string x.by_, .int .u8 x.state, .int .i64 x.since, .int .i64 x.told]
theorem encA_len (x : Al) : (encA x).length = 5 := rfl
abbrev av (x : Al) : Value := .agg #[.int .u32 x.rule, .string x.by_, .int .u8 x.state, .int .i64 x.since, .int .i64 x.told]
abbrev ac (x : Al) : Array Value := #[.int .u32 x.rule, .string x.by_, .int .u8 x.state, .int .i64 x.since, .int .i64 x.told]
abbrev za : Array Value := #[.int .u32 0, .string ⟨#[]⟩, .int .u8 0, .int .i64 0, .int .i64 0]
theorem info_alert : (Try.prog.info? 39).map (fun i => (i.zero, i.size, i.bytes)) = some (some (.agg za), 5, 48) := by kernel_rfl
theorem encA_one (x : Al) : ∀ u ∈ encA x, u.oneCell' = true := by
  intro u hu
  simp only [List.mem_cons, List.not_mem_nil, or_false] at hu
  rcases hu with rfl | rfl | rfl | rfl | rfl <;> rfl
theorem cells_A {W : World} {a : Addr} {xs : List Al} {k : Nat} {x : Al} (h : RowAt W a 5 encA xs) (hx : xs[k]? = some x) :
    W.cell? (a.add (k * 5)) = some (.int .u32 x.rule) ∧ W.cell? ⟨(a.add (k * 5)).block, (a.add (k * 5)).off + 1, none⟩ = some (.string x.by_) ∧ W.cell? ⟨(a.add (k * 5)).block, (a.add (k * 5)).off + 2, none⟩ = some (.int .u8 x.state) ∧ W.cell? ⟨(a.add (k * 5)).block, (a.add (k * 5)).off + 3, none⟩ = some (.int .i64 x.since) ∧ W.cell? ⟨(a.add (k * 5)).block, (a.add (k * 5)).off + 4, none⟩ = some (.int .i64 x.told) := by
  have x0 := h k _ hx 0 _ rfl
  rw [Addr.add_zero'] at x0
  exact ⟨x0, h k _ hx 1 _ rfl, h k _ hx 2 _ rfl, h k _ hx 3 _ rfl, h k _ hx 4 _ rfl⟩
theorem take_snoc' {α : Type} {l : List α} {k : Nat} {x : α} (h : l[k]? = some x) : l.take (k + 1) = l.take k ++ [x] := by
  rw [List.take_add_one, h]; rfl
theorem exit_gen {K : Act → World → Prop} {Q : Exit → Act → World → Prop} {a : Act} {W : World} (I : World → Prop) (hI : I W) (h : ∀ W', I W' → Exit.then K Q .normal a W') : Exit.then K Q .normal a W := h W hI
end Go.Proofs.Ytajflljemfgkiaa
