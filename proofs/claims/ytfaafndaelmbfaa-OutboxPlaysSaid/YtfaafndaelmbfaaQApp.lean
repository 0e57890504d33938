/- append and copy over slices that read as lists. -/
import Derived.Test.YtfaafndaelmbfaaQMem
import Derived.Maps.AppendAt
import Derived.ArgAppend
import Derived.OwnWalk
namespace Go.Proofs.Ytfaafndaelmbfaa
open Go.RowKit

section
variable {P : Program} {α : Type} {w : World} {size : Nat} {enc : α → List Value}

theorem flat_oneCell' {ys : List α} (h : ∀ x ∈ ys, ∀ u ∈ enc x, u.oneCell' = true) : ∀ u ∈ ys.flatMap enc, u.oneCell' = true := by
  intro u hu
  obtain ⟨x, hx, hu⟩ := List.mem_flatMap.1 hu
  exact h x hx u hu
theorem grown_kept {w w' : World} {v : Value} (h : w.grownBy w' v.ownBlock) : Kept (fun k => v.ownBlock = some k) w w' :=
  ⟨h.os, h.tape, h.output, h.size, fun k hk hf => h.block k hk (fun e => hf e.symm)⟩

/-- append(v, s...): v the call's own, s any slice -/
theorem run_append_sl (he : ∀ x, (enc x).length = size) (base : Nat) (t ty e : TypeId) (i : TypeInfo) (z : Value) (bytes : Nat) (ht : P.underlying t = some (.slice e)) (hi : P.info? e = some i) (hz : i.zero = some z)
    (hsize : i.size = size) (hby : i.bytes = bytes) (hzs : z.cells.size = size) (hsz : 0 < size) {S : Nat → Prop} {v s : Value} {xs ys : List α} (hown : w.ownsRow base e size v xs.length (xs.flatMap enc)) (hs : Sl S w s size enc ys) (h1 : ∀ x ∈ ys, ∀ u ∈ enc x, u.oneCell' = true)
    (h63 : xs.length + ys.length ≤ maxLen) (hbytes : (xs.length + ys.length) * bytes ≤ 140737488355328) (hbase : base ≤ w.heap.size) :
    ∃ v' w', (Builtin.append_ #[t, t] ty #[v, s]).run P w = .ok v' w' ∧ w'.ownsRow base e size v' (xs ++ ys).length ((xs ++ ys).flatMap enc) ∧ Kept (fun k => v.ownBlock = some k) w w' ∧ (v'.ownBlock = v.ownBlock ∨ v'.ownBlock = some w.heap.size) := by
  rcases hs with ⟨rfl, rfl⟩ | ⟨ad, cap, rfl, k1, k2, k3, k4⟩
  · refine ⟨v, w, run_append_owned_none w base t ty e i size ht hi v _ _ hown, ?_, Kept.refl _ _, .inl rfl⟩
    rw [List.append_nil]; exact hown
  · obtain ⟨v', w', r1, r2, r3, _, r5⟩ := run_append_own_at (P := P) w base t ty e i z size bytes ht hi hz hsize hby hzs hsz v _ _ hown ad ys.length cap (ys.flatMap enc) (flat_length he ys) (k4.flat he) (flat_oneCell' h1) h63 hbytes hbase
    refine ⟨v', w', r1, ?_, grown_kept r3, r5⟩
    rw [List.length_append, List.flatMap_append]
    exact r2
theorem wp_append_sl (he : ∀ x, (enc x).length = size) {o : Oper} {a : Act} {K : Act → World → Prop} {Q : Exit → Act → World → Prop} (so xo : Operand) (t : TypeId)
    (ho : o.op = .call { callee := .builtin .append, args := #[so, xo], argTypes := #[t, t] }) (base : Nat) (e : TypeId) (i : TypeInfo) (z : Value) (bytes : Nat) (ht : P.underlying t = some (.slice e)) (hi : P.info? e = some i) (hz : i.zero = some z)
    (hsize : i.size = size) (hby : i.bytes = bytes) (hzs : z.cells.size = size) (hsz : 0 < size) {S : Nat → Prop} {v s : Value} {xs ys : List α} (hv : a.eval so = v) (hs : a.eval xo = s) (hown : w.ownsRow base e size v xs.length (xs.flatMap enc)) (hsl : Sl S w s size enc ys) (h1 : ∀ x ∈ ys, ∀ u ∈ enc x, u.oneCell' = true)
    (h63 : xs.length + ys.length ≤ maxLen) (hbytes : (xs.length + ys.length) * bytes ≤ 140737488355328) (hbase : base ≤ w.heap.size)
    (h : ∀ v' w', w'.ownsRow base e size v' (xs ++ ys).length ((xs ++ ys).flatMap enc) → Kept (fun k => v.ownBlock = some k) w w' → (v'.ownBlock = v.ownBlock ∨ v'.ownBlock = some w.heap.size) → K (a.put o.dst v') w') : o.wp P a w K Q := by
  obtain ⟨v', w', hr, h2, h3, h4⟩ := run_append_sl (P := P) he base t o.type e i z bytes ht hi hz hsize hby hzs hsz hown hsl h1 h63 hbytes hbase
  unfold Oper.wp execOp
  simp only [ho, resolve, invoke, builtin, Sem.run_bind, Sem.run_pure, Result.andThen_ok, List.map_toArray, List.map_cons, List.map_nil, hv, hs, hr]
  exact h v' w' h2 h3 h4
theorem wpList_append_sl (he : ∀ x, (enc x).length = size) {ops : Array Oper} {rest : List Oper} {o : Oper} {a : Act} {Q : Exit → Act → World → Prop} (hgd : o.guard = none) (so xo : Operand) (t : TypeId)
    (ho : o.op = .call { callee := .builtin .append, args := #[so, xo], argTypes := #[t, t] }) (base : Nat) (e : TypeId) (i : TypeInfo) (z : Value) (bytes : Nat) (ht : P.underlying t = some (.slice e)) (hi : P.info? e = some i) (hz : i.zero = some z)
    (hsize : i.size = size) (hby : i.bytes = bytes) (hzs : z.cells.size = size) (hsz : 0 < size) {S : Nat → Prop} {v s : Value} {xs ys : List α} (hv : a.eval so = v) (hs : a.eval xo = s) (hown : w.ownsRow base e size v xs.length (xs.flatMap enc)) (hsl : Sl S w s size enc ys) (h1 : ∀ x ∈ ys, ∀ u ∈ enc x, u.oneCell' = true)
    (h63 : xs.length + ys.length ≤ maxLen) (hbytes : (xs.length + ys.length) * bytes ≤ 140737488355328) (hbase : base ≤ w.heap.size)
    (h : ∀ v' w', w'.ownsRow base e size v' (xs ++ ys).length ((xs ++ ys).flatMap enc) → Kept (fun k => v.ownBlock = some k) w w' → (v'.ownBlock = v.ownBlock ∨ v'.ownBlock = some w.heap.size) → wpList P ops Q rest (a.put o.dst v') w') : wpList P ops Q (o :: rest) a w :=
  wpList_plain hgd fun _ hK => wp_append_sl he so xo t ho base e i z bytes ht hi hz hsize hby hzs hsz hv hs hown hsl h1 h63 hbytes hbase fun v' w' a b c => hK _ _ (h v' w' a b c)
theorem step_append_sl (he : ∀ x, (enc x).length = size) {ops : Array Oper} {o : Oper} {a : Act} {K : Act → World → Prop} {Q : Exit → Act → World → Prop} {E : Prop} (hgd : o.guard = none) (so xo : Operand) (t : TypeId)
    (ho : o.op = .call { callee := .builtin .append, args := #[so, xo], argTypes := #[t, t] }) (base : Nat) (e : TypeId) (i : TypeInfo) (z : Value) (bytes : Nat) (ht : P.underlying t = some (.slice e)) (hi : P.info? e = some i) (hz : i.zero = some z)
    (hsize : i.size = size) (hby : i.bytes = bytes) (hzs : z.cells.size = size) (hsz : 0 < size) {S : Nat → Prop} {v s : Value} {xs ys : List α} (hv : a.eval so = v) (hs : a.eval xo = s) (hown : w.ownsRow base e size v xs.length (xs.flatMap enc)) (hsl : Sl S w s size enc ys) (h1 : ∀ x ∈ ys, ∀ u ∈ enc x, u.oneCell' = true)
    (h63 : xs.length + ys.length ≤ maxLen) (hbytes : (xs.length + ys.length) * bytes ≤ 140737488355328) (hbase : base ≤ w.heap.size)
    (h : ∀ v' w', w'.ownsRow base e size v' (xs ++ ys).length ((xs ++ ys).flatMap enc) → Kept (fun k => v.ownBlock = some k) w w' → (v'.ownBlock = v.ownBlock ∨ v'.ownBlock = some w.heap.size) → K (a.put o.dst v') w') :
    if Region.wanted o (yielded ops a.tmps) = true then Oper.wp P o a w K Q else E := by
  have hw : Region.wanted o (yielded ops a.tmps) = true := by simp [Region.wanted, hgd]
  rw [if_pos hw]
  exact wp_append_sl he so xo t ho base e i z bytes ht hi hz hsize hby hzs hsz hv hs hown hsl h1 h63 hbytes hbase h

/-- one element in a block of its own -/
theorem Sl.one {S : Nat → Prop} {b : Nat} {cs : Array Value} {t : TypeId} (he : ∀ x, (enc x).length = size) {x : α} (h : w.heap[b]? = some (.cells cs t (0, 0))) (hx : cs = (enc x).toArray) (hS : S b) : Sl S w (.slice (some ⟨b, 0, none⟩) 1 1) size enc [x] := by
  refine Sl.block (xs := [x]) he h (fun j u hu => ?_) (Nat.le_refl _) (by decide) hS
  rw [hx, List.getElem?_toArray]
  simpa using hu
/-- append(v[:n:n], s...) makes a row of its own -/
theorem run_append_new (he : ∀ x, (enc x).length = size) (t ty e : TypeId) (i : TypeInfo) (z : Value) (bytes : Nat) (ht : P.underlying t = some (.slice e)) (hi : P.info? e = some i) (hz : i.zero = some z)
    (hsize : i.size = size) (hby : i.bytes = bytes) (hzs : z.cells.size = size) (hsz : 0 < size) {S T : Nat → Prop} {s : Value} {p : Option Addr} {n : Nat} {xs ys : List α} (hn : n = xs.length) (hv : Sl T w (.slice p n n) size enc xs) (hs : Sl S w s size enc ys) (hp : 0 < ys.length)
    (h63 : xs.length + ys.length ≤ maxLen) (hbytes : (xs.length + ys.length) * bytes ≤ 140737488355328) :
    ∃ v' w', (Builtin.append_ #[t, t] ty #[.slice p n n, s]).run P w = .ok v' w' ∧ w'.ownsRow w.heap.size e size v' (xs ++ ys).length ((xs ++ ys).flatMap enc) ∧ Below w.heap.size w w' ∧ v'.ownBlock = some w.heap.size := by
  subst hsize
  subst hby
  subst hn
  rcases hs with ⟨rfl, rfl⟩ | ⟨ad, cap, rfl, k1, k2, k3, k4⟩
  · simp at hp
  have hb63 : ((xs.length + ys.length : Nat) : Int) ≤ 9223372036854775807 := by simp only [maxLen] at h63; omega
  rcases hv with ⟨hv, rfl⟩ | ⟨av, capv, hv, q1, q2, q3, q4⟩
  · obtain ⟨rfl, _, _⟩ : p = none ∧ 0 = 0 ∧ 0 = 0 := by simpa using hv
    have hr := run_append_nil (P := P) w t ty e i z ht hi hz ad ys.length cap (ys.flatMap enc) (flat_length he ys) (k4.flat he) hp (by simpa using hb63) (by simp at hbytes; omega)
    refine ⟨_, _, hr, ?_, ⟨rfl, rfl, rfl, by simp, fun k hk => heap_alloc_old w.drew _ k hk⟩, rfl⟩
    rw [List.nil_append]
    have hge := grownCap_ge w ys.length 0 e
    refine ⟨flat_length he ys, .inr ⟨w.heap.size, _, _, rfl, Nat.le_refl _, heap_alloc_new w.drew _, hge, grownCap_le_maxLen w ys.length 0 e (by simpa using h63), ?_, ?_⟩⟩
    · simp only [Array.size_append, List.size_toArray, size_zeroCells, hzs, flat_length he, ← Nat.add_mul]
      congr 1
      omega
    · simp only [Array.toList_append]
      rw [← flat_length he]
      exact List.take_left
  · obtain ⟨rfl, rfl⟩ : p = some av ∧ xs.length = capv := by simpa using hv
    have hlt : xs.length < xs.length + ys.length := by omega
    have hr := run_append_grow (P := P) w t ty e i z ht hi hz av xs.length xs.length (xs.flatMap enc) (flat_length he xs) (q4.flat he) ad ys.length cap (ys.flatMap enc) (flat_length he ys) (k4.flat he) hlt hb63 (growslice_fits hlt hbytes)
    refine ⟨_, _, hr, ?_, ⟨rfl, rfl, rfl, by simp, fun k hk => heap_alloc_old w.drew _ k hk⟩, rfl⟩
    have hge := grownCap_ge w (xs.length + ys.length) xs.length e
    have hlen : (xs ++ ys).length = xs.length + ys.length := List.length_append
    have hfl : (xs.flatMap enc ++ ys.flatMap enc).length = (xs.length + ys.length) * i.size := by rw [List.length_append, flat_length he, flat_length he, Nat.add_mul]
    rw [hlen, List.flatMap_append]
    refine ⟨hfl, .inr ⟨w.heap.size, _, _, rfl, Nat.le_refl _, heap_alloc_new w.drew _, hge, grownCap_le_maxLen w _ _ e h63, ?_, ?_⟩⟩
    · simp only [Array.size_append, List.size_toArray, size_zeroCells, hzs, flat_length he, ← Nat.add_mul]
      congr 1
      omega
    · simp only [Array.toList_append, List.append_assoc]
      rw [← List.append_assoc, ← hfl]
      exact List.take_left
theorem wp_append_new (he : ∀ x, (enc x).length = size) {o : Oper} {a : Act} {K : Act → World → Prop} {Q : Exit → Act → World → Prop} (so xo : Operand) (t : TypeId)
    (ho : o.op = .call { callee := .builtin .append, args := #[so, xo], argTypes := #[t, t] }) (e : TypeId) (i : TypeInfo) (z : Value) (bytes : Nat) (ht : P.underlying t = some (.slice e)) (hi : P.info? e = some i) (hz : i.zero = some z)
    (hsize : i.size = size) (hby : i.bytes = bytes) (hzs : z.cells.size = size) (hsz : 0 < size) {S T : Nat → Prop} {s : Value} {p : Option Addr} {n : Nat} {xs ys : List α} (hv : a.eval so = .slice p n n) (hs : a.eval xo = s) (hn : n = xs.length) (hvl : Sl T w (.slice p n n) size enc xs) (hsl : Sl S w s size enc ys) (hp : 0 < ys.length)
    (h63 : xs.length + ys.length ≤ maxLen) (hbytes : (xs.length + ys.length) * bytes ≤ 140737488355328)
    (h : ∀ v' w', w'.ownsRow w.heap.size e size v' (xs ++ ys).length ((xs ++ ys).flatMap enc) → Below w.heap.size w w' → v'.ownBlock = some w.heap.size → K (a.put o.dst v') w') : o.wp P a w K Q := by
  obtain ⟨v', w', hr, h2, h3, h4⟩ := run_append_new (P := P) he t o.type e i z bytes ht hi hz hsize hby hzs hsz hn hvl hsl hp h63 hbytes
  unfold Oper.wp execOp
  simp only [ho, resolve, invoke, builtin, Sem.run_bind, Sem.run_pure, Result.andThen_ok, List.map_toArray, List.map_cons, List.map_nil, hv, hs, hr]
  exact h v' w' h2 h3 h4
theorem step_append_new (he : ∀ x, (enc x).length = size) {ops : Array Oper} {o : Oper} {a : Act} {K : Act → World → Prop} {Q : Exit → Act → World → Prop} {E : Prop} (hgd : o.guard = none) (so xo : Operand) (t : TypeId)
    (ho : o.op = .call { callee := .builtin .append, args := #[so, xo], argTypes := #[t, t] }) (e : TypeId) (i : TypeInfo) (z : Value) (bytes : Nat) (ht : P.underlying t = some (.slice e)) (hi : P.info? e = some i) (hz : i.zero = some z)
    (hsize : i.size = size) (hby : i.bytes = bytes) (hzs : z.cells.size = size) (hsz : 0 < size) {S T : Nat → Prop} {s : Value} {p : Option Addr} {n : Nat} {xs ys : List α} (hv : a.eval so = .slice p n n) (hs : a.eval xo = s) (hn : n = xs.length) (hvl : Sl T w (.slice p n n) size enc xs) (hsl : Sl S w s size enc ys) (hp : 0 < ys.length)
    (h63 : xs.length + ys.length ≤ maxLen) (hbytes : (xs.length + ys.length) * bytes ≤ 140737488355328)
    (h : ∀ v' w', w'.ownsRow w.heap.size e size v' (xs ++ ys).length ((xs ++ ys).flatMap enc) → Below w.heap.size w w' → v'.ownBlock = some w.heap.size → K (a.put o.dst v') w') :
    if Region.wanted o (yielded ops a.tmps) = true then Oper.wp P o a w K Q else E := by
  have hw : Region.wanted o (yielded ops a.tmps) = true := by simp [Region.wanted, hgd]
  rw [if_pos hw]
  exact wp_append_new he so xo t ho e i z bytes ht hi hz hsize hby hzs hsz hv hs hn hvl hsl hp h63 hbytes h
end
end Go.Proofs.Ytfaafndaelmbfaa
