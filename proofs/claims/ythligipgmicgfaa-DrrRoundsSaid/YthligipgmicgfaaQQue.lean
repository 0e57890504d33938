/- Lists of items; queues: none, Len, First, Pop. -/
import Derived.Test.YthligipgmicgfaaQBas
import Derived.Test.YthligipgmicgfaaQApp
namespace Go.Proofs.Ythligipgmicgfaa
open Go.RowKit
attribute [local go_sem] Oper.semAt_some

/-- an item's row: the value of its labels, the item -/
abbrev encI (r : Value × It) : List Value := [r.1, .int .i64 r.2.at_, .int .i64 r.2.vl, .int .i64 r.2.cost]
theorem encI_len (r : Value × It) : (encI r).length = 4 := rfl
/-- a value that is one cell -/
def Lab (S : Nat → Prop) (W : World) (r : Value × It) : Prop := Lb S W r.1 r.2.ls
def Law (S : Nat → Prop) (W : World) (r : Value × It) : Prop := Lw S W r.1 r.2.ls
theorem Lb.oneCell {S : Nat → Prop} {W : World} {v : Value} {ls : List Lbl} (h : Lb S W v ls) : v.oneCell' = true := by
  rcases h.sl with ⟨rfl, _⟩ | ⟨a, cap, rfl, _⟩ <;> rfl
theorem Lb.slice {S : Nat → Prop} {W : World} {v : Value} {ls : List Lbl} (h : Lb S W v ls) : ∃ p c, v = .slice p ls.length c := by
  rcases h.sl with ⟨rfl, rfl⟩ | ⟨a, cap, rfl, _⟩
  · exact ⟨_, _, rfl⟩
  · exact ⟨_, _, rfl⟩
/-- items behind an address -/
structure IA (S : Nat → Prop) (W : World) (a : Addr) (xs : List It) (rs : List (Value × It)) : Prop where
  map : rs.map Prod.snd = xs
  blk : 0 < xs.length → a.block < W.heap.size ∧ S a.block
  row : RowAt W a 4 encI rs
  lab : ∀ r ∈ rs, Lab S W r
theorem IA.len {S : Nat → Prop} {W : World} {a : Addr} {xs : List It} {rs : List (Value × It)} (h : IA S W a xs rs) : rs.length = xs.length := by rw [← h.map, List.length_map]
theorem IA.kept {S F : Nat → Prop} {W W' : World} {a : Addr} {xs : List It} {rs : List (Value × It)} (h : IA S W a xs rs) (hk : Kept F W W') (hf : ∀ k, k < W.heap.size → S k → ¬ F k) : IA S W' a xs rs :=
  ⟨h.map, fun hp => ⟨Nat.lt_of_lt_of_le (h.blk hp).1 hk.size, (h.blk hp).2⟩, h.row.keep (fun hp => by rw [h.len] at hp; exact hk.block _ (h.blk hp).1 (hf _ (h.blk hp).1 (h.blk hp).2)), fun r hr => (h.lab r hr).kept hk hf⟩
theorem IA.below {S : Nat → Prop} {W W' : World} {a : Addr} {xs : List It} {rs : List (Value × It)} (h : IA S W a xs rs) (hb : Below W.heap.size W W') : IA S W' a xs rs :=
  h.kept (F := fun _ => False) (kept_of_below hb) (fun _ _ _ x => x)
theorem IA.mono {S T : Nat → Prop} {W : World} {a : Addr} {xs : List It} {rs : List (Value × It)} (h : IA S W a xs rs) (hS : ∀ k, k < W.heap.size → S k → T k) : IA T W a xs rs :=
  ⟨h.map, fun hp => ⟨(h.blk hp).1, hS _ (h.blk hp).1 (h.blk hp).2⟩, h.row, fun r hr => (h.lab r hr).mono hS⟩
theorem IA.at {S : Nat → Prop} {W : World} {a : Addr} {xs : List It} {rs : List (Value × It)} (h : IA S W a xs rs) {i : Nat} {x : It} (hx : xs[i]? = some x) :
    ∃ lv, Lb S W lv x.ls ∧ a.block < W.heap.size ∧ S a.block ∧ W.cell? (a.add (i * 4)) = some lv ∧ W.cell? ⟨(a.add (i * 4)).block, (a.add (i * 4)).off + 1, none⟩ = some (.int .i64 x.at_) ∧ W.cell? ⟨(a.add (i * 4)).block, (a.add (i * 4)).off + 2, none⟩ = some (.int .i64 x.vl) ∧ W.cell? ⟨(a.add (i * 4)).block, (a.add (i * 4)).off + 3, none⟩ = some (.int .i64 x.cost) := by
  rw [← h.map, List.getElem?_map] at hx
  obtain ⟨r, hr, rfl⟩ := Option.map_eq_some_iff.1 hx
  have hp : 0 < xs.length := by have := (List.getElem?_eq_some_iff.1 hr).1; rw [h.len] at this; omega
  exact ⟨r.1, h.lab r (List.mem_of_getElem? hr), (h.blk hp).1, (h.blk hp).2, h.row i r hr 0 _ rfl, h.row i r hr 1 _ rfl, h.row i r hr 2 _ rfl, h.row i r hr 3 _ rfl⟩
/-- a slice of items -/
def Its (S : Nat → Prop) (W : World) (v : Value) (xs : List It) : Prop :=
  (v = .slice none 0 0 ∧ xs = []) ∨ ∃ a cap rs, v = .slice (some a) xs.length cap ∧ xs.length ≤ cap ∧ cap ≤ maxLen ∧ IA S W a xs rs
section
variable {S T F : Nat → Prop} {W W' : World} {v : Value} {xs : List It}
theorem Its.nil (S : Nat → Prop) (W : World) : Its S W (.slice none 0 0) [] := .inl ⟨rfl, rfl⟩
theorem Its.kept (h : Its S W v xs) (hk : Kept F W W') (hf : ∀ k, k < W.heap.size → S k → ¬ F k) : Its S W' v xs := by
  rcases h with h | ⟨a, cap, rs, rfl, h1, h2, h3⟩
  · exact .inl h
  · exact .inr ⟨a, cap, rs, rfl, h1, h2, h3.kept hk hf⟩
theorem Its.below (h : Its S W v xs) (hb : Below W.heap.size W W') : Its S W' v xs := h.kept (F := fun _ => False) (kept_of_below hb) (fun _ _ _ x => x)
theorem Its.mono (h : Its S W v xs) (hS : ∀ k, k < W.heap.size → S k → T k) : Its T W v xs := by
  rcases h with h | ⟨a, cap, rs, rfl, h1, h2, h3⟩
  · exact .inl h
  · exact .inr ⟨a, cap, rs, rfl, h1, h2, h3.mono hS⟩
theorem Its.slice (h : Its S W v xs) : ∃ p c, v = .slice p xs.length c := by
  rcases h with ⟨rfl, rfl⟩ | ⟨a, cap, rs, rfl, h1, h2, h3⟩
  · exact ⟨_, _, rfl⟩
  · exact ⟨_, _, rfl⟩
theorem Its.at {p : Option Addr} {n c : Nat} (h : Its S W (.slice p n c) xs) {i : Nat} {x : It} (hx : xs[i]? = some x) :
    ∃ a lv, p = some a ∧ Lb S W lv x.ls ∧ W.cell? (a.add (i * 4)) = some lv ∧ W.cell? ⟨(a.add (i * 4)).block, (a.add (i * 4)).off + 1, none⟩ = some (.int .i64 x.at_) ∧ W.cell? ⟨(a.add (i * 4)).block, (a.add (i * 4)).off + 2, none⟩ = some (.int .i64 x.vl) ∧ W.cell? ⟨(a.add (i * 4)).block, (a.add (i * 4)).off + 3, none⟩ = some (.int .i64 x.cost) := by
  rcases h with ⟨h, rfl⟩ | ⟨a, cap, rs, h, h1, h2, h3⟩
  · simp at hx
  · simp only [Value.slice.injEq] at h
    obtain ⟨rfl, _, _⟩ := h
    obtain ⟨lv, g1, _, _, g4⟩ := h3.at hx
    exact ⟨a, lv, rfl, g1, g4⟩
/-- rows that the call has made -/
structure Rws (S : Nat → Prop) (W : World) (base : Nat) (e : TypeId) (v : Value) (xs : List It) (rs : List (Value × It)) : Prop where
  map : rs.map Prod.snd = xs
  own : W.ownsRow base e 4 v rs.length (rs.flatMap encI)
  lab : ∀ r ∈ rs, Law S W r
theorem Rws.len {base : Nat} {e : TypeId} {rs : List (Value × It)} (h : Rws S W base e v xs rs) : rs.length = xs.length := by rw [← h.map, List.length_map]
theorem Rws.its {base : Nat} {e : TypeId} {rs : List (Value × It)} (h : Rws S W base e v xs rs) (hS : ∀ k, v.ownBlock = some k → S k) : Its S W v xs := by
  have hl := h.len
  rcases Sl.owned encI_len h.own with ⟨h1, h2⟩ | ⟨a, cap, rfl, h1, h2, h3, h4⟩
  · exact .inl ⟨h1, by rw [h2] at hl; exact List.length_eq_zero_iff.1 hl.symm⟩
  · rw [hl] at h1 h2
    exact .inr ⟨a, cap, rs, by rw [hl], h2, h3, h.map, fun hp => ⟨(h1 hp).1, hS _ (h1 hp).2⟩, h4, fun r hr => (h.lab r hr).lb⟩
theorem Rws.none (S : Nat → Prop) (W : World) (base : Nat) (e : TypeId) : Rws S W base e (.slice none 0 0) [] [] := ⟨rfl, World.ownsRow_nil _ _ _ _, fun r hr => by cases hr⟩
theorem Its.sl (h : Its S W v xs) : ∃ rs, rs.map Prod.snd = xs ∧ Sl S W v 4 encI rs ∧ ∀ r ∈ rs, Lab S W r := by
  rcases h with ⟨rfl, rfl⟩ | ⟨a, cap, rs, rfl, h1, h2, h3⟩
  · exact ⟨[], rfl, Sl.nil S W, fun r hr => by cases hr⟩
  · refine ⟨rs, h3.map, .inr ⟨a, cap, by rw [h3.len], fun hp => h3.blk (by rw [← h3.len]; exact hp), by rw [h3.len]; exact h1, h2, h3.row⟩, h3.lab⟩
theorem Its.of_sl {rs : List (Value × It)} (hm : rs.map Prod.snd = xs) (h : Sl S W v 4 encI rs) (hl : ∀ r ∈ rs, Lab S W r) : Its S W v xs := by
  subst hm
  rcases h with ⟨h1, rfl⟩ | ⟨a, cap, rfl, h1, h2, h3, h4⟩
  · exact .inl ⟨h1, rfl⟩
  · exact .inr ⟨a, cap, rs, by rw [List.length_map], by rw [List.length_map]; exact h2, h3, rfl, fun hp => h1 (by rw [List.length_map] at hp; exact hp), h4, hl⟩
end

/-- a queue that was made: its struct lies in block p -/
def QAt (S : Nat → Prop) (p : Nat) (W : World) (xs : List It) : Prop := ∃ v, Box W p #[v, .bool true] 55 ∧ Its S W v xs ∧ ¬ S p
theorem QAt.below {S : Nat → Prop} {p : Nat} {W W' : World} {xs : List It} (h : QAt S p W xs) (hb : Below W.heap.size W W') : QAt S p W' xs := by
  obtain ⟨v, h1, h2, h3⟩ := h
  exact ⟨v, h1.below hb, h2.below hb, h3⟩
theorem QAt.kept {S F : Nat → Prop} {p : Nat} {W W' : World} {xs : List It} (h : QAt S p W xs) (hk : Kept F W W') (hf : ∀ k, k < W.heap.size → S k → ¬ F k) (hp : ¬ F p) : QAt S p W' xs := by
  obtain ⟨v, h1, h2, h3⟩ := h
  exact ⟨v, h1.kept hk hp, h2.kept hk hf, h3⟩
theorem QAt.lt {S : Nat → Prop} {p : Nat} {W : World} {xs : List It} (h : QAt S p W xs) : p < W.heap.size := by
  obtain ⟨v, h1, h2, h3⟩ := h
  exact h1.lt
/-- a queue that nobody made -/
def QNo (W : World) (q : Value) : Prop := q = .pointer none ∨ ∃ p, q = .pointer (some ⟨p, 0, none⟩) ∧ Box W p #[.slice none 0 0, .bool false] 55
theorem QNo.below {W W' : World} {q : Value} (h : QNo W q) (hb : Below W.heap.size W W') : QNo W' q := by
  rcases h with h | ⟨p, h, h1⟩
  · exact .inl h
  · exact .inr ⟨p, h, h1.below hb⟩
abbrev qv (p : Nat) : Value := .pointer (some ⟨p, 0, none⟩)

def Is (v : Value) (w : World) (e : Ending) (w' : World) : Prop := e = .returned v ∧ w = w'
def Tells (v : Value) (w : World) (e : Ending) (w' : World) : Prop := e = .returned v ∧ Below w.heap.size w w'

theorem none_any {S : Nat → Prop} {p : Nat} {w : World} {xs : List It} (h : QAt S p w xs) : Calls Try.prog 35 #[qv p] w (Is (.bool false) w) := by
  obtain ⟨v, h1, h2, h3⟩ := h
  obtain ⟨c, z⟩ := h1.rd
  clear h1 h2 h3
  go_enter Try.func35, Try.ntmps35
  go_wp2
  go_ret
  exact ⟨rfl, rfl⟩
theorem none_no {q : Value} {w : World} (h : QNo w q) : Calls Try.prog 35 #[q] w (Is (.bool true) w) := by
  rcases h with rfl | ⟨p, rfl, h1⟩
  · go_enter Try.func35, Try.ntmps35
    go_wp2
    go_ret
    exact ⟨rfl, rfl⟩
  · obtain ⟨c, z⟩ := h1.rd
    clear h1
    go_enter Try.func35, Try.ntmps35
    go_wp2
    go_ret
    exact ⟨rfl, rfl⟩
theorem len_any {S : Nat → Prop} {p : Nat} {w : World} {xs : List It} (h : QAt S p w xs) : Calls Try.prog 15 #[qv p] w (Is (.int .i64 xs.length) w) := by
  have hn := none_any h
  obtain ⟨v, h1, h2, h3⟩ := h
  obtain ⟨c, z⟩ := h1.rd
  obtain ⟨p1, c1, rfl⟩ := h2.slice
  have HN := Lib.hid hn
  clear h1 h2 h3 hn
  go_enter Try.func15, Try.ntmps15
  go_wp2_with fail
  refine HN.out.mono ?_
  rintro e w1 ⟨rfl, rfl⟩
  go_wp2
  go_ret
  exact ⟨rfl, rfl⟩
theorem len_no {q : Value} {w : World} (h : QNo w q) : Calls Try.prog 15 #[q] w (Is (.int .i64 0) w) := by
  have HN := Lib.hid (none_no h)
  clear h
  go_enter Try.func15, Try.ntmps15
  go_wp2_with fail
  refine HN.out.mono ?_
  rintro e w1 ⟨rfl, rfl⟩
  go_wp2
  go_ret
  exact ⟨rfl, rfl⟩
def NewTo (w : World) (e : Ending) (w' : World) : Prop := e = .returned (qv w.heap.size) ∧ Below w.heap.size w w' ∧ QAt (fun k => k ≠ w.heap.size) w.heap.size w' []
theorem new_any (w : World) : Calls Try.prog 12 #[] w (NewTo w) := by
  go_enter Try.func12, Try.ntmps12
  go_wp2
  go_ret
  exact ⟨rfl, (Below.refl _ w).alloc (Nat.le_refl _) _, _, Box.new w _ _, Its.nil _ _, fun h => h rfl⟩

/-- First: the first item, twinned, or none -/
def FirstTo (o : Option It) (w : World) (e : Ending) (w' : World) : Prop :=
  match o with
  | none => e = .returned (.tuple #[iv (.slice none 0 0) ⟨[], 0, 0, 0⟩, .bool false]) ∧ Below w.heap.size w w'
  | some x => ∃ lv, e = .returned (.tuple #[iv lv x, .bool true]) ∧ Lw (fun k => w.heap.size ≤ k) w' lv x.ls ∧ Below w.heap.size w w'
set_option maxRecDepth 100000 in
set_option maxHeartbeats 1000000 in
theorem first_none {q : Value} {w : World} (hn : Calls Try.prog 15 #[q] (w.alloc (.cells #[.slice none 0 0, .int .i64 0, .int .i64 0, .int .i64 0] 32)) (Is (.int .i64 0) (w.alloc (.cells #[.slice none 0 0, .int .i64 0, .int .i64 0, .int .i64 0] 32)))) : Calls Try.prog 22 #[q] w (FirstTo none w) := by
  have HN := Lib.hid hn
  clear hn
  go_enter Try.func22, Try.ntmps22
  go_wp2_with fail
  refine HN.out.mono ?_
  rintro e w1 ⟨rfl, rfl⟩
  go_wp2
  refine bodyPost_ret (v := .tuple #[iv (.slice none 0 0) ⟨[], 0, 0, 0⟩, .bool false]) ?_ rfl ?_
  · simp [results, Try.results22, go_sem]
  · exact ⟨rfl, (Below.refl _ w).alloc (Nat.le_refl _) _⟩
theorem IA.head {S : Nat → Prop} {W : World} {a : Addr} {x : It} {xs : List It} {rs : List (Value × It)} (h : IA S W a (x :: xs) rs) :
    ∃ lv, Lb S W lv x.ls ∧ W.cell? a = some lv ∧ W.cell? ⟨a.block, a.off + 1, none⟩ = some (.int .i64 x.at_) ∧ W.cell? ⟨a.block, a.off + 2, none⟩ = some (.int .i64 x.vl) ∧ W.cell? ⟨a.block, a.off + 3, none⟩ = some (.int .i64 x.cost) := by
  obtain ⟨lv, h1, h2, h3, h4⟩ := h.at (i := 0) rfl
  have : a.add (0 * 4) = a := by rw [Nat.zero_mul, Addr.add_zero']
  rw [this] at h4
  exact ⟨lv, h1, h4⟩
set_option maxRecDepth 100000 in
set_option maxHeartbeats 1000000 in
theorem first_some {S : Nat → Prop} {p : Nat} {w : World} {x : It} {xs : List It} (h : QAt S p w (x :: xs)) : Calls Try.prog 22 #[qv p] w (FirstTo (some x) w) := by
  have hb0 : Below w.heap.size w (w.alloc (.cells #[.slice none 0 0, .int .i64 0, .int .i64 0, .int .i64 0] 32)) := (Below.refl _ w).alloc (Nat.le_refl _) _
  have hn := len_any (h.below hb0)
  obtain ⟨v, h1, h2, h3⟩ := h.below hb0
  obtain ⟨c, z⟩ := h1.rd
  have b0 := Box.new w #[.slice none 0 0, .int .i64 0, .int .i64 0, .int .i64 0] 32
  have hpn := h.lt
  rcases h2 with ⟨_, hx⟩ | ⟨a, cap, rs, rfl, k1, k2, k3⟩
  · cases hx
  obtain ⟨lv, hl, x0, x1, x2, x3⟩ := k3.head
  have hne : ((xs.length : Int) + 1 == 0) = false := by rw [beq_eq_false_iff_ne]; omega
  have hpos : (0 : Int) < (xs.length : Int) + 1 := by omega
  have HN := Lib.hid hn
  have HL := Lib.hid hl
  have HB := Lib.hid hb0
  simp only [List.length_cons] at k1 HN ⊢
  clear hn hl h h1 h3 k3 hb0
  obtain ⟨W, hW⟩ : ∃ W, (w.alloc (.cells #[.slice none 0 0, .int .i64 0, .int .i64 0, .int .i64 0] 32)) = W := ⟨_, rfl⟩
  rw [hW] at HN HL HB c z x0 x1 x2 x3 b0
  have HW := Lib.hid hW
  clear hW
  go_enter Try.func22, Try.ntmps22
  go_wp2_with fail
  rw [HW.out]
  refine HN.out.mono ?_
  rintro e w1 ⟨rfl, rfl⟩
  go_wp2_with fail
  refine (twin_any HL.out).mono ?_
  rintro e w1 ⟨l1, rfl, hl1, hb1⟩
  obtain ⟨p1, q1, rfl⟩ := hl1.lb.slice
  have b1 := b0.below hb1
  have hB := below_then HB.out hb1
  clear c z x0 x1 x2 x3 b0 hb1
  obtain ⟨c1, z1⟩ := b1.rd
  go_wp2
  refine bodyPost_ret (v := .tuple #[iv (.slice p1 x.ls.length q1) x, .bool true]) ?_ rfl ?_
  · simp [results, Try.results22, go_sem, c1]
  · have hK : Kept (fun k => k = w.heap.size) w1 ((((w1.setCell ⟨w.heap.size, 0, none⟩ (.slice p1 x.ls.length q1)).setCell ⟨w.heap.size, 1, none⟩ (.int .i64 x.at_)).setCell ⟨w.heap.size, 2, none⟩ (.int .i64 x.vl)).setCell ⟨w.heap.size, 3, none⟩ (.int .i64 x.cost)) :=
      ((((Kept.refl _ w1).setCell _ _ (by simp)).setCell _ _ (by simp)).setCell _ _ (by simp)).setCell _ _ (by simp)
    have hz : w.heap.size < W.heap.size := by rw [← HW.out]; simp
    exact ⟨_, rfl, (hl1.kept hK (fun k _ h => by omega)).mono (fun k _ h => by omega), hB.trans (hK.below (fun k h => by omega) hB.size)⟩
end Go.Proofs.Ythligipgmicgfaa
