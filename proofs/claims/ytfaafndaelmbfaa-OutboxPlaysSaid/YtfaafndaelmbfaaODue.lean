/- (*Box).Pump: what stands between two rounds; the iterator over what is due. -/
import Derived.Test.YtfaafndaelmbfaaORng
import Derived.Lib.QuietBelowIn
import Derived.LoopIn
import Derived.TacticsIn
namespace Go.Proofs.Ytfaafndaelmbfaa
open Go.RowKit
attribute [local go_sem] Oper.semAt_some

def isDue (rs : List Ow) (at_ : Int) (j : Nat) : Bool := match rs[j]? with | some o => decide (o.nx ≤ at_) | none => false
/-- the places below k of what is due -/
def dueB (rs : List Ow) (at_ : Int) (k : Nat) : List Nat := (List.range k).filter (isDue rs at_)
theorem dueB_yes {rs : List Ow} {at_ : Int} {k : Nat} {o : Ow} (h : rs[k]? = some o) (hd : o.nx ≤ at_) : dueB rs at_ (k + 1) = dueB rs at_ k ++ [k] := by
  unfold dueB
  rw [List.range_succ, List.filter_append]
  congr 1
  simp [isDue, h, hd]
theorem dueB_no {rs : List Ow} {at_ : Int} {k : Nat} {o : Ow} (h : rs[k]? = some o) (hd : ¬ o.nx ≤ at_) : dueB rs at_ (k + 1) = dueB rs at_ k := by
  unfold dueB
  rw [List.range_succ, List.filter_append]
  simp [isDue, h, hd]
theorem mem_dueB {rs : List Ow} {at_ : Int} {k j : Nat} : j ∈ dueB rs at_ k ↔ j < k ∧ isDue rs at_ j = true := by
  unfold dueB
  rw [List.mem_filter, List.mem_range]
/-- with the ones at some places sent -/
def pmp (rs : List Ow) (at_ : Int) (pre : List Nat) : List Ow := rs.mapIdx (fun j o => if j ∈ pre then pmW at_ o else o)
theorem pmp_len (rs : List Ow) (at_ : Int) (pre : List Nat) : (pmp rs at_ pre).length = rs.length := by unfold pmp; simp
theorem pmp_nil (rs : List Ow) (at_ : Int) : pmp rs at_ [] = rs := by
  unfold pmp
  apply List.ext_getElem? 
  intro i
  rw [List.getElem?_mapIdx]
  simp
theorem pmp_at {rs : List Ow} {at_ : Int} {pre : List Nat} {k : Nat} {o : Ow} (h : rs[k]? = some o) (hk : k ∉ pre) : (pmp rs at_ pre)[k]? = some o := by
  unfold pmp
  rw [List.getElem?_mapIdx, h]
  simp [hk]
theorem pmp_snoc {rs : List Ow} {at_ : Int} {pre : List Nat} {k : Nat} {o : Ow} (h : rs[k]? = some o) : (pmp rs at_ pre).set k (pmW at_ o) = pmp rs at_ (pre ++ [k]) := by
  apply List.ext_getElem?
  intro i
  unfold pmp
  by_cases hi : k = i
  · subst hi
    have hl : k < rs.length := (List.getElem?_eq_some_iff.1 h).1
    rw [List.getElem?_set_self (by simp; exact hl), List.getElem?_mapIdx, h]
    simp
  · rw [List.getElem?_set_ne hi, List.getElem?_mapIdx, List.getElem?_mapIdx]
    cases rs[i]? with
    | none => rfl
    | some x =>
      have : i ≠ k := fun e => hi e.symm
      simp [this]
/-- the messages at some places -/
def msgsAt (rs : List Ow) (pre : List Nat) : List Ms := pre.filterMap (fun j => rs[j]?.map (fun o => o.m.m))
theorem msgsAt_snoc {rs : List Ow} {pre : List Nat} {k : Nat} {o : Ow} (h : rs[k]? = some o) : msgsAt rs (pre ++ [k]) = msgsAt rs pre ++ [o.m.m] := by
  unfold msgsAt
  rw [List.filterMap_append]
  simp [h]
theorem msgsAt_len {rs : List Ow} : ∀ (pre : List Nat), (msgsAt rs pre).length ≤ pre.length
  | pre => by unfold msgsAt; exact List.length_filterMap_le _ _
theorem dueB_len (rs : List Ow) (at_ : Int) (k : Nat) : (dueB rs at_ k).length ≤ k := by
  unfold dueB
  have := List.length_filter_le (isDue rs at_) (List.range k)
  simpa using this

/-- whatever is cells lies as it lay -/
def KeepsCells (W W' : World) : Prop := ∀ (b : Nat) (cs : Array Value) (t : TypeId), W.heap[b]? = some (.cells cs t (0, 0)) → W'.heap[b]? = some (.cells cs t (0, 0))
theorem keepsCells_grown {W W' : World} {row : Option Nat} (hg : W.grownBy W' row) (hr : ∀ r, row = some r → ∃ o : Obj, W.heap[r]? = some o ∧ o.isCells = false) : KeepsCells W W' := fun b cs t h =>
  (hg.block b (lt_block h) (fun e => by
    obtain ⟨o, ho, hc⟩ := hr b e.symm
    rw [h] at ho
    cases ho
    cases hc)).trans h
theorem Box.cells {W W' : World} {b : Nat} {cs : Array Value} {t : TypeId} (h : Box W b cs t) (hk : KeepsCells W W') : Box W' b cs t := hk _ _ _ h
theorem owns_cells {W W' : World} {base : Nat} {e : TypeId} {size n : Nat} {v : Value} {xs : List Value} (h : W.ownsRow base e size v n xs) (hk : KeepsCells W W') : W'.ownsRow base e size v n xs := by
  refine ⟨h.1, ?_⟩
  rcases h.2 with hn | ⟨g, cap, cur, rfl, hb, hg, rest⟩
  · exact .inl hn
  · exact .inr ⟨g, cap, cur, rfl, hb, hk _ _ _ hg, rest⟩
theorem Rwm.cells {base : Nat} {W W' : World} {v : Value} {rs : List Mr} (h : Rwm base W v rs) (hk : KeepsCells W W') : Rwm base W' v rs :=
  ⟨owns_cells h.own hk, fun r hr => ⟨owns_cells (h.mw r hr).k hk, owns_cells (h.mw r hr).s hk, (h.mw r hr).ne⟩, h.ne⟩

/-- what stands between two rounds: the rounds at the places of 'pre' are done; b: the first of Pump's own blocks -/
structure PI (S : Nat → Prop) (p : Nat) (p1 : Option Addr) (c b : Nat) (rs : List Ow) (at_ : Int) (fn : Value) (w0 : World) (pre : List Nat) (W : World) : Prop where
  kept : Kept (fun k => (Value.slice p1 rs.length c).ownBlock = some k) w0 W
  box : Box W p #[.slice p1 rs.length c, .bool true] 50
  own : W.ownsRow 0 36 7 (.slice p1 rs.length c) rs.length ((pmp rs at_ pre).flatMap encO)
  mo : ∀ r ∈ rs, Mo (fun k => S k ∧ (Value.slice p1 rs.length c).ownBlock ≠ some k ∧ k < w0.heap.size) W r.m
  b2 : Box W b #[bv p] 23
  b3 : Box W (b + 1) #[.int .i64 at_] 3
  b5 : ∃ v os, Box W (b + 2) #[v] 38 ∧ Rwm (b + 6) W v os ∧ os.map Mr.m = msgsAt rs pre
  b6 : Box W (b + 3) #[fn] 69
  b7 : Box W (b + 4) #[bv p] 23
  b8 : Box W (b + 5) #[.int .i64 at_] 3
section
variable {S : Nat → Prop} {p : Nat} {p1 : Option Addr} {c b : Nat} {rs : List Ow} {at_ : Int} {fn : Value} {w0 W W' : World} {pre : List Nat}
theorem PI.grown (h : PI S p p1 c b rs at_ fn w0 pre W) {row : Option Nat} (hg : W.grownBy W' row) (hr : ∀ r, row = some r → w0.heap.size ≤ r ∧ ∃ o : Obj, W.heap[r]? = some o ∧ o.isCells = false) : PI S p p1 c b rs at_ fn w0 pre W' := by
  have hk := keepsCells_grown hg (fun r e => (hr r e).2)
  obtain ⟨v, os, h1, h2, h3⟩ := h.b5
  have hkk : Kept (fun k => row = some k) W W' := ⟨hg.os, hg.tape, hg.output, hg.size, fun k hk hf => hg.block k hk (fun e => hf e.symm)⟩
  exact ⟨h.kept.grown hg (fun k e hk => by have := (hr k e).1; omega), h.box.cells hk, owns_cells h.own hk, fun r hr' => (h.mo r hr').kept hkk (fun k _ s e => by have := (hr k e).1; omega), h.b2.cells hk, h.b3.cells hk, ⟨v, os, h1.cells hk, h2.cells hk, h3⟩, h.b6.cells hk, h.b7.cells hk, h.b8.cells hk⟩
theorem PI.later (h : PI S p p1 c b rs at_ fn w0 pre W) (hb : Below W.heap.size W W') : PI S p p1 c b rs at_ fn w0 pre W' :=
  h.grown (row := none) ⟨hb.os, hb.tape, hb.output, hb.size, fun k hk _ => hb.block k hk⟩ (fun r e => by cases e)
end
theorem PI.own' {S : Nat → Prop} {p : Nat} {p1 : Option Addr} {c b : Nat} {rs : List Ow} {at_ : Int} {fn : Value} {w0 : World} {B : Nat} (hB : w0.heap.size ≤ B) : OwnFrom B (PI S p p1 c b rs at_ fn w0) := fun _ _ _ _ hs hg hr =>
  hs.grown hg (fun l e => ⟨by have := (hr l e).1; omega, (hr l e).2⟩)
def PxD (rs : List Ow) (at_ : Int) (pre : List Nat) (k : Nat) : Prop := pre = dueB rs at_ k ∧ ∃ o, rs[k]? = some o ∧ o.nx ≤ at_
abbrev encK (k : Nat) : Array Value := #[.int .i64 k]
/-- how an iterator ends -/
def SQ {α : Type} (S : List α → Prop) (J : List α → World → Prop) (e : Ending) (W' : World) : Prop := (∃ v, e = .returned v) ∧ ∃ xs, S xs ∧ J xs W'
theorem SQ.done {α : Type} {S : List α → Prop} {J : List α → World → Prop} {v : Value} {W' : World} (xs : List α) (h : S xs) (hJ : J xs W') : SQ S J (.returned v) W' := ⟨⟨_, rfl⟩, xs, h, hJ⟩
set_option maxRecDepth 100000 in
set_option maxHeartbeats 2000000 in
theorem due1_feeds (N : Nat) {S : Nat → Prop} {p : Nat} {p1 : Option Addr} {c b : Nat} {rs : List Ow} {at_ : Int} {fn : Value} {w0 : World} (hN : 3 ≤ N) (hn : rs.length ≤ 1000) :
    Feeds Fence.wide N Try.prog 40 #[.pointer (some ⟨b + 4, 0, none⟩), .pointer (some ⟨b + 5, 0, none⟩)] encK (PI S p p1 c b rs at_ fn w0) (PxD rs at_) (fun xs => xs = dueB rs at_ rs.length) := fun l J W hJ hJI hY h0 => by
  have h1n : 1 ≤ N := by omega
  have h2n : 1 ≤ N - 1 := by omega
  have hI := hJI _ _ h0
  obtain ⟨c0, z0⟩ := hI.box.rd
  have c7 := hI.b7.rd.1
  have HJI := Lib.hid hJI
  have HY := Lib.hid hY
  have HJ := Lib.hid hJ
  clear hJI hY hI hJ
  show CallsIn _ _ _ _ _ _ (SQ (fun xs => xs = dueB rs at_ rs.length) J)
  refine callsIn_of_wp Try.func40 rfl trivial ?_ rfl
  simp only [Try.ntmps40, List.size_toArray, List.length_cons, List.length_nil, Nat.reduceAdd, Nat.reduceSub, Array.replicate_succ, Array.replicate_zero, List.push_toArray, List.append_toArray, List.nil_append, List.cons_append]
  gi_wp2
  clear c0 z0 c7
  gi_loopw [11] (fun a wr => ∃ k : Nat, k ≤ rs.length ∧ a = .int .i64 k ∧ J (dueB rs at_ k) wr) (fun a wr => rs.length - (intOf a).toNat)
  case atStart => exact ⟨0, by omega, rfl, h0⟩
  case round =>
    obtain ⟨k, hk, rfl, hJk⟩ := hrel
    by_cases hlt : k < rs.length
    · obtain ⟨⟨⟨kv, sv, m⟩, tr, nx⟩, hx⟩ : ∃ r, rs[k]? = some r := ⟨_, List.getElem?_eq_getElem hlt⟩
      have hI := HJI.out _ _ hJk
      obtain ⟨g, rfl⟩ : ∃ g, p1 = some ⟨g, 0, none⟩ := by
        rcases hI.own.2 with ⟨_, h⟩ | ⟨g, cap, cur, h, _⟩
        · omega
        · exact ⟨g, by cases h; rfl⟩
      have hx2 : (pmp rs at_ (dueB rs at_ k))[k]? = _ := pmp_at hx (fun h => by have := (mem_dueB.1 h).1; omega)
      obtain ⟨x0, x1, x2, x3, x4, x5, x6⟩ := own_cs hI.own hx2
      have c8 := hI.b8.rd.1
      have hb8 := hI.b8.lt
      have hmo := hI.mo _ (List.mem_of_getElem? hx)
      obtain ⟨q1, d1, e3, -, -⟩ := hmo.k.len
      obtain ⟨q2, d2, e4, -, -⟩ := hmo.s.len
      simp only at e3 e4 x0 x1 x2 x3 x4 x5 x6
      subst e3 e4
      have hb1 : Below wr.heap.size wr (wr.alloc (.cells (oc ⟨⟨.slice q1 m.ks.length d1, .slice q2 m.ss.length d2, m⟩, tr, nx⟩) 36)) := (Below.refl _ wr).alloc (Nat.le_refl _) _
      have hJ1 := HJ.out _ _ (wr.alloc (.cells (oc ⟨⟨.slice q1 m.ks.length d1, .slice q2 m.ss.length d2, m⟩, tr, nx⟩) 36)) none hJk ⟨hb1.os, hb1.tape, hb1.output, hb1.size, fun k hk _ => hb1.block k hk⟩ (fun r e => by cases e)
      have HJ1 := Lib.hid hJ1
      have hs1 := hb1.size
      have HX := Lib.hid hx
      clear hmo hI hx2 hx hb1 hJ1
      by_cases hd : nx ≤ at_
      · have HS1 := Lib.hid (dueB_yes HX.out hd)
        obtain ⟨fn', tmps, assign, body, hy, hR⟩ := HY.out (dueB rs at_ k) k _ HJ1.out ⟨rfl, _, HX.out, hd⟩
        gi_wp2
        refine hR.mono ?_
        rintro e W3 ⟨rfl, hJ3⟩
        gi_wp2
        go_roundw
        case rel =>
          refine ⟨k + 1, by omega, by simp, ?_⟩
          rw [HS1.out]
          exact hJ3
        case measure => simp [intOf]; omega
      · have HS1 := Lib.hid (dueB_no HX.out hd)
        gi_wp2
        refine ⟨fun f hf => (by cases hf), ?_⟩
        gi_wp2
        go_roundw
        case rel =>
          refine ⟨k + 1, by omega, by simp, ?_⟩
          rw [HS1.out]
          exact HJ1.out
        case measure => simp [intOf]; omega
    · obtain rfl : k = rs.length := by omega
      gi_wp2
      go_end0
      exact SQ.done _ rfl hJk
end Go.Proofs.Ytfaafndaelmbfaa
