/- Labels and items: the plain records, their cells; laws for make and copy; (Item).twin. -/
import Derived.Test.YthligipgmicgfaaChecked
import Derived.Test.YthligipgmicgfaaQMem
import Derived.WalkKit
import Derived.OwnWalk
import Derived.ArgAppend
import Derived.Lib.Hide
import Derived.Outline
import Derived.BigQuiet
import Derived.Deep.QuietTactic
import Derived.Deep.RegionWith
import Derived.Deep.RegionHeld3
import Derived.StillTailTactics
namespace Go.Proofs.Ythligipgmicgfaa
open Go.RowKit
attribute [local go_sem] Oper.semAt_some

/-- a label; an item -/
structure Lbl where
  nm : ByteArray
  vl : ByteArray
structure It where
  ls : List Lbl
  at_ : Int
  vl : Int
  cost : Int
abbrev encL (x : Lbl) : List Value := [.string x.nm, .string x.vl]
theorem encL_len (x : Lbl) : (encL x).length = 2 := rfl
theorem encL_one (x : Lbl) : ∀ u ∈ encL x, u.oneCell' = true := by intro u hu; simp at hu; rcases hu with rfl | rfl <;> rfl
abbrev iv (lv : Value) (x : It) : Value := .agg #[lv, .int .i64 x.at_, .int .i64 x.vl, .int .i64 x.cost]
/-- labels -/
structure Lb (S : Nat → Prop) (W : World) (v : Value) (ls : List Lbl) : Prop where
  sl : Sl S W v 2 encL ls
  sz : ls.length * 32 ≤ 140737488351232
theorem Lb.below {S : Nat → Prop} {W W' : World} {v : Value} {ls : List Lbl} (h : Lb S W v ls) (hb : Below W.heap.size W W') : Lb S W' v ls := ⟨h.sl.below hb, h.sz⟩
theorem Lb.kept {S F : Nat → Prop} {W W' : World} {v : Value} {ls : List Lbl} (h : Lb S W v ls) (hk : Kept F W W') (hf : ∀ k, k < W.heap.size → S k → ¬ F k) : Lb S W' v ls := ⟨h.sl.kept hk hf, h.sz⟩
theorem Lb.mono {S T : Nat → Prop} {W : World} {v : Value} {ls : List Lbl} (h : Lb S W v ls) (hS : ∀ k, k < W.heap.size → S k → T k) : Lb T W v ls := ⟨h.sl.mono hS, h.sz⟩
theorem Lb.nil (S : Nat → Prop) (W : World) : Lb S W (.slice none 0 0) [] := ⟨Sl.nil S W, by simp⟩

theorem info_label : (Try.prog.info? 79).map (fun i => (i.zero, i.size, i.bytes)) = some (some (.agg #[.string ⟨#[]⟩, .string ⟨#[]⟩]), 2, 32) := by kernel_rfl

/-- a block known whole -/
def Box (W : World) (b : Nat) (cs : Array Value) (t : TypeId) : Prop := W.heap[b]? = some (.cells cs t (0, 0))
theorem Box.below {W W' : World} {b : Nat} {cs : Array Value} {t : TypeId} (h : Box W b cs t) (hb : Below W.heap.size W W') : Box W' b cs t := (hb.block _ (lt_block h)).trans h
theorem Box.lt {W : World} {b : Nat} {cs : Array Value} {t : TypeId} (h : Box W b cs t) : b < W.heap.size := lt_block h
theorem Box.rd {W : World} {b : Nat} {cs : Array Value} {t : TypeId} (h : Box W b cs t) : (∀ i, W.cell? ⟨b, i, none⟩ = cs[i]?) ∧ ∀ i, W.frozen? ⟨b, i, none⟩ = false := ⟨cell_block h, frozen_block h⟩
theorem Box.kept {F : Nat → Prop} {W W' : World} {b : Nat} {cs : Array Value} {t : TypeId} (h : Box W b cs t) (hk : Kept F W W') (hf : ¬ F b) : Box W' b cs t := (hk.block _ (lt_block h) hf).trans h
theorem Box.set {W : World} {b i : Nat} {cs : Array Value} {t : TypeId} (h : Box W b cs t) (v : Value) : Box (W.setCell ⟨b, i, none⟩ v) b (cs.setIfInBounds i v) t := set_block v h
theorem Box.other {W : World} {b c i : Nat} {cs : Array Value} {t : TypeId} (h : Box W b cs t) (v : Value) (hn : b ≠ c) : Box (W.setCell ⟨c, i, none⟩ v) b cs t := set_other v h hn
theorem Box.new (W : World) (cs : Array Value) (t : TypeId) : Box (W.alloc (.cells cs t)) W.heap.size cs t := heap_alloc_new W _
theorem Box.alloc {W : World} {b : Nat} {cs : Array Value} {t : TypeId} (h : Box W b cs t) (o : Obj) : Box (W.alloc o) b cs t := (Below.heap_alloc _ _ _ (lt_block h)).trans h

/-- make([]T, n): a row of n elements -/
theorem wpList_make_row {P : Program} (w : World) {ops : Array Oper} {rest : List Oper} {o : Oper} {a : Act} {Q : Exit → Act → World → Prop}
    (hg : o.guard = none) (l c : Operand) (t : TypeId) (hop : o.op = Op.makeSlice t l c)
    (e : TypeId) (i : TypeInfo) (z : Value) (size bytes : Nat) (h1 : P.underlying t = some (.slice e)) (h2 : P.info? e = some i) (h3 : i.zero = some z) (h4 : i.size = size) (h5 : i.bytes = bytes)
    (kl kc : IntKind) (n : Nat) (hl : a.eval l = .int kl n) (hc : a.eval c = .int kc n) (b2 : bytes * n ≤ 281474976710656) (b3 : n ≤ maxLen)
    (hK : ∀ w' cs, Box w' w.heap.size cs e → cs.size = n * size → Below w.heap.size w w' → wpList P ops Q rest (a.put o.dst (.slice (some ⟨w.heap.size, 0, none⟩) n n)) w') :
    wpList P ops Q (o :: rest) a w := by
  refine wpList_make_full w hg l c t hop w.heap.size e i z size h1 h2 h3 h4 kl kc n n n hl hc rfl rfl (by rw [h5]; exact b2) b3 (Nat.le_refl _) ?_
  intro w' hown hgrow
  rcases hown.2 with ⟨h, _⟩ | ⟨g, cap, cur, h, hb, hgg, k1, k2, k3, k4⟩
  · cases h
  · simp only [Value.slice.injEq, Option.some.injEq, Addr.mk.injEq, and_true, true_and] at h
    obtain ⟨rfl, rfl⟩ := h
    exact hK w' cur hgg k3 ((Below.refl _ w).grown hgrow (Nat.le_refl _) (fun k e => by cases e))
/-- copy over a whole row -/
theorem wpList_copy_all {P : Program} {α : Type} (w : World) {ops : Array Oper} {rest : List Oper} {o : Oper} {a : Act} {Q : Exit → Act → World → Prop} (hgd : o.guard = none) (d s : Operand) (dT sT : TypeId)
    (ho : o.op = .call { callee := .builtin .copy, args := #[d, s], argTypes := #[dT, sT] }) (elem : TypeId) (size : Nat) (hu : P.underlying dT = some (.slice elem)) (hsz : (P.info? elem).map (·.size) = some size)
    {S : Nat → Prop} (enc : α → List Value) (xs : List α) (he : ∀ x, (enc x).length = size) (h1 : ∀ x, ∀ u ∈ enc x, u.oneCell' = true) (src : Value) (hsrc : Sl S w src size enc xs)
    (g : Nat) (hd : a.eval d = .slice (some ⟨g, 0, none⟩) xs.length xs.length) (hs : a.eval s = src) (cur : Array Value) (t : TypeId) (hg : Box w g cur t) (hc : cur.size = xs.length * size)
    (h : ∀ w', Box w' g (xs.flatMap enc).toArray t → Kept (· = g) w w' → wpList P ops Q rest (a.put o.dst (goInt xs.length)) w') : wpList P ops Q (o :: rest) a w := by
  refine wpList_plain hgd fun K hK => ?_
  have hl := flat_length he xs
  rcases hsrc with ⟨rfl, rfl⟩ | ⟨ad, cap, rfl, k1, k2, k3, k4⟩
  · have hrun := run_copy_nil (P := P) w dT sT o.type elem ⟨g, 0, none⟩ 0 0 hu (by rw [hsz]; rfl)
    unfold Oper.wp
    simp only [List.length_nil] at hd h hc
    simp [execOp, ho, resolve, invoke, builtin, hd, hs, hrun, Result.andThen]
    refine hK _ _ (h w ?_ (Kept.refl _ _))
    have : cur = #[] := Array.eq_empty_of_size_eq_zero (by simpa using hc)
    rw [this] at hg
    simpa using hg
  · have hrun := run_copy_rows (P := P) w dT sT o.type elem g xs.length xs.length ad xs.length cap cur t (xs.flatMap enc) size xs.length hu hsz hg (Nat.min_self _) hl (k4.flat he) (by rw [hl, hc]; exact Nat.le_refl _) (flat_oneCell h1 xs)
    have hz : cur.toList.drop (xs.flatMap enc).length = [] := List.drop_eq_nil_of_le (by rw [hl, Array.length_toList, hc]; exact Nat.le_refl _)
    rw [hz, List.append_nil] at hrun
    unfold Oper.wp
    simp [execOp, ho, resolve, invoke, builtin, hd, hs, hrun, Result.andThen]
    exact hK _ _ (h _ (setRow_heap w g cur _ t (0, 0) hg) ⟨rfl, rfl, rfl, by simp [World.setRow], fun k hk hf => setRow_other w g k _ (fun e => hf e)⟩)

/-- labels that may be written -/
structure Lw (S : Nat → Prop) (W : World) (v : Value) (ls : List Lbl) : Prop where
  lb : Lb S W v ls
  wr : 0 < ls.length → ∃ b c cs t, v = .slice (some ⟨b, 0, none⟩) ls.length c ∧ Box W b cs t ∧ ls.length * 2 ≤ cs.size
theorem Lb.own {S : Nat → Prop} {W : World} {v : Value} {ls : List Lbl} (h : Lb S W v ls) (hp : 0 < ls.length) {k : Nat} (hk : v.ownBlock = some k) : k < W.heap.size ∧ S k := by
  rcases h.sl with ⟨rfl, rfl⟩ | ⟨a, cap, rfl, h1, _⟩
  · simp at hp
  · simp only [Value.ownBlock, Option.some.injEq] at hk
    subst hk
    exact h1 hp
theorem Lw.kept {S F : Nat → Prop} {W W' : World} {v : Value} {ls : List Lbl} (h : Lw S W v ls) (hk : Kept F W W') (hf : ∀ k, k < W.heap.size → S k → ¬ F k) : Lw S W' v ls :=
  ⟨h.lb.kept hk hf, fun hp => by
    obtain ⟨b, c, cs, t, e, hb, hs⟩ := h.wr hp
    have ho := h.lb.own hp (k := b) (by rw [e]; rfl)
    exact ⟨b, c, cs, t, e, hb.kept hk (hf b ho.1 ho.2), hs⟩⟩
theorem Lw.below {S : Nat → Prop} {W W' : World} {v : Value} {ls : List Lbl} (h : Lw S W v ls) (hb : Below W.heap.size W W') : Lw S W' v ls := h.kept (F := fun _ => False) (kept_of_below hb) (fun _ _ _ x => x)
theorem Lw.mono {S T : Nat → Prop} {W : World} {v : Value} {ls : List Lbl} (h : Lw S W v ls) (hS : ∀ k, k < W.heap.size → S k → T k) : Lw T W v ls := ⟨h.lb.mono hS, h.wr⟩
def ItemTo (x : It) (w : World) (e : Ending) (w' : World) : Prop := ∃ lv, e = .returned (iv lv x) ∧ Lw (fun k => w.heap.size ≤ k) w' lv x.ls ∧ Below w.heap.size w w'

set_option maxRecDepth 100000 in
set_option maxHeartbeats 1000000 in
theorem twin_any {S : Nat → Prop} {lv : Value} {x : It} {w : World} (h : Lb S w lv x.ls) :
    Calls Try.prog 36 #[iv lv x] w (ItemTo x w) := by
  obtain ⟨i0, hi, hz0, hz1, hz2⟩ := info_parts info_label
  obtain ⟨n, hn⟩ : ∃ n, n = x.ls.length := ⟨_, rfl⟩
  have hnb : n * 32 ≤ 140737488351232 := hn ▸ h.sz
  obtain ⟨p, c, hlv⟩ : ∃ p c, lv = .slice p x.ls.length c := by
    rcases h.sl with ⟨rfl, h0⟩ | ⟨a, cap, rfl, _⟩
    · exact ⟨_, _, by rw [h0]; rfl⟩
    · exact ⟨_, _, rfl⟩
  rw [← hn] at hlv
  have HL := Lib.hid h
  have HI := Lib.hid hi
  have HZ0 := Lib.hid hz0
  have HZ1 := Lib.hid hz1
  have HZ2 := Lib.hid hz2
  have HN := Lib.hid hn
  clear h hi hz0 hz1 hz2 hn
  subst hlv
  go_enter Try.func36, Try.ntmps36
  go_wp2_with (at_make; refine wpList_make_row _ rfl (.tmp 6) (.tmp 6) 28 rfl 79 i0 _ 2 32 Try.underlying28 HI.out HZ0.out HZ1.out HZ2.out .i64 .i64 n rfl rfl (by omega) (by unfold maxLen; omega) ?_)
  rintro w1 cs hb1 hcs hB
  have b0 := (((Box.new w #[.slice p n c, .int .i64 x.at_, .int .i64 x.vl, .int .i64 x.cost] 32).alloc (.cells #[.slice none 0 0, .int .i64 0, .int .i64 0, .int .i64 0] 32)).below (by simpa using hB))
  have b1 := (Box.new (w.alloc (.cells #[.slice p n c, .int .i64 x.at_, .int .i64 x.vl, .int .i64 x.cost] 32)) #[.slice none 0 0, .int .i64 0, .int .i64 0, .int .i64 0] 32).below (by simpa using hB)
  have hBw : Below w.heap.size w w1 := (((Below.refl _ w).alloc (Nat.le_refl _) _).alloc (by simp) _).trans (hB.mono (by omega))
  rw [World.size_alloc] at b1
  obtain ⟨c0, z0⟩ := b0.rd
  have hsl := Lib.hid ((HL.out.sl).below hBw)
  have HCS := Lib.hid hcs
  clear hcs hB
  go_wp2_with (refine wpList_copy_all _ rfl (.tmp 8) (.tmp 10) 28 28 rfl 79 2 Try.underlying28 (by kernel_rfl) encL x.ls encL_len encL_one (.slice p n c) hsl.out (w.heap.size + 1 + 1) (by rw [← HN.out]; rfl) (by rfl) cs 79 hb1 (by rw [← HN.out]; exact HCS.out) ?_)
  rintro w2 hb2 hk
  have b0 := b0.kept hk (by omega)
  have b1 := b1.kept hk (by omega)
  have hBw := hBw.trans ((hk.below (B := w.heap.size) (fun k e => by omega) hBw.size))
  clear c0 z0 hsl HCS hb1 hk
  obtain ⟨c0, z0⟩ := b0.rd
  obtain ⟨c1, z1⟩ := b1.rd
  go_wp2
  refine bodyPost_ret (v := iv (.slice (some ⟨w.heap.size + 1 + 1, 0, none⟩) n n) x) ?_ rfl ?_
  · simp [results, Try.results36, go_sem, c1]
  · have hK : Kept (fun k => k = w.heap.size ∨ k = w.heap.size + 1) w2 (((((w2.setCell ⟨w.heap.size, 0, none⟩ (.slice (some ⟨w.heap.size + 1 + 1, 0, none⟩) n n)).setCell ⟨w.heap.size + 1, 0, none⟩ (.slice (some ⟨w.heap.size + 1 + 1, 0, none⟩) n n)).setCell ⟨w.heap.size + 1, 1, none⟩ (.int .i64 x.at_)).setCell ⟨w.heap.size + 1, 2, none⟩ (.int .i64 x.vl)).setCell ⟨w.heap.size + 1, 3, none⟩ (.int .i64 x.cost)) :=
      (((((Kept.refl _ w2).setCell _ _ (fun _ => .inl rfl)).setCell _ _ (fun _ => .inr rfl)).setCell _ _ (fun _ => .inr rfl)).setCell _ _ (fun _ => .inr rfl)).setCell _ _ (fun _ => .inr rfl)
    refine ⟨_, rfl, ⟨⟨?_, HL.out.sz⟩, fun _ => ⟨_, _, _, _, by rw [HN.out], hb2.kept hK (by omega), by rw [List.size_toArray, flat_length encL_len]; exact Nat.le_refl _⟩⟩, hBw.trans (hK.below (fun k hk => by omega) hBw.size)⟩
    exact Sl.full encL_len (hb2.kept hK (by omega)) HN.out (by unfold maxLen; omega) (by omega)
end Go.Proofs.Ythligipgmicgfaa
