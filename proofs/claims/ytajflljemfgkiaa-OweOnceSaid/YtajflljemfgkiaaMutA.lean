/- Walks of package mute: the iterator over stretches. -/
import Derived.Test.YtajflljemfgkiaaDate1
import Derived.Test.YtajflljemfgkiaaMut
import Derived.Lib.QuietBelowIn
namespace Go.Proofs.Ytajflljemfgkiaa
open Go.RowKit Go.Shelf Mut
attribute [local go_sem] Oper.semAt_some

abbrev encP (p : Int × Int) : Array Value := #[.int .i64 p.1, .int .i64 p.2]
theorem strl_len (m : MuteD) (q : Int) (k : Nat) : (strl m q k).length ≤ k := by
  induction k with
  | zero => simp [strl]
  | succ k ih => unfold strl; rw [List.length_append]; split <;> simp <;> omega

set_option maxHeartbeats 1000000 in
theorem stretches_any (m : MuteD) (n k : Int) (w : World) :
    Calls Try.prog 33 #[.agg #[.string m.nm, .bool m.d0, .bool m.d1, .bool m.d2, .bool m.d3, .bool m.d4, .bool m.d5, .bool m.d6, .int .i64 m.f, .int .i64 m.t], .int .i64 n, .int .i64 k] w fun e w' =>
      e = .returned (.func (.func 41) #[] #[.pointer (some ⟨w.heap.size, 0, none⟩), .pointer (some ⟨w.heap.size + 1, 0, none⟩), .pointer (some ⟨w.heap.size + 1 + 1, 0, none⟩)]) ∧
      ((w.alloc (.cells #[.string m.nm, .bool m.d0, .bool m.d1, .bool m.d2, .bool m.d3, .bool m.d4, .bool m.d5, .bool m.d6, .int .i64 m.f, .int .i64 m.t] 46)).alloc (.cells #[.int .i64 n] 3)).alloc (.cells #[.int .i64 k] 3) = w' := by
  go_enter Try.func33, Try.ntmps33
  go_wp2
  go_ret
  exact ⟨rfl, rfl⟩

/-- what a round keeps: the iterator's three boxes -/
def KB3 (b : Nat) (A B : World) : Prop := A.heap.size ≤ B.heap.size ∧ ∀ k, b ≤ k → k < b + 3 → B.heap[k]? = A.heap[k]?
theorem KB3.t {b : Nat} {A B C : World} (h : KB3 b A B) (k : KB3 b B C) : KB3 b A C := ⟨Nat.le_trans h.1 k.1, fun j a c => (k.2 j a c).trans (h.2 j a c)⟩
theorem KB3.b {b : Nat} {w : World} (hb : b + 2 < w.heap.size) (W : World) (l : Nat) (o o' : Obj) (hl : w.heap.size ≤ l) (_ : W.heap[l]? = some o) (_ : o.isCells = false) (_ : o.isWalk = false) : KB3 b W (W.putObj l o') :=
  ⟨(grownBy_putObj' W l o').size, fun k h1 h2 => World.putObj_heap_other (by omega)⟩
/-- the iterator's boxes -/
structure Boxes (m : MuteD) (n k : Int) (b : Nat) (W : World) : Prop where
  lt : b + 2 < W.heap.size
  m0 : W.heap[b]? = some (.cells #[.string m.nm, .bool m.d0, .bool m.d1, .bool m.d2, .bool m.d3, .bool m.d4, .bool m.d5, .bool m.d6, .int .i64 m.f, .int .i64 m.t] 46 (0, 0))
  n0 : W.heap[b + 1]? = some (.cells #[.int .i64 n] 3 (0, 0))
  k0 : W.heap[b + 2]? = some (.cells #[.int .i64 k] 3 (0, 0))
theorem Boxes.keep {m : MuteD} {n k : Int} {b : Nat} {W W' : World} (h : Boxes m n k b W) (hk : KB3 b W W') : Boxes m n k b W' :=
  ⟨by have := h.lt; have := hk.1; omega, (hk.2 b (by omega) (by omega)).trans h.m0, (hk.2 (b + 1) (by omega) (by omega)).trans h.n0, (hk.2 (b + 2) (by omega) (by omega)).trans h.k0⟩
theorem KB3.of_below {b : Nat} {W W' : World} (h : Below W.heap.size W W') (hb : b + 2 < W.heap.size) : KB3 b W W' := ⟨h.size, fun k _ h2 => h.block k (by omega)⟩
theorem Boxes.day {m : MuteD} {n k : Int} {b : Nat} {W : World} (h : Boxes m n k b W) (wd : Int) (h0 : 0 ≤ wd) (h1 : wd < 7) : W.cell? ⟨b, 1 + wd.toNat, none⟩ = some (.bool (m.day wd)) := by
  have hm := h.m0
  rcases (show wd = 0 ∨ wd = 1 ∨ wd = 2 ∨ wd = 3 ∨ wd = 4 ∨ wd = 5 ∨ wd = 6 by omega) with rfl | rfl | rfl | rfl | rfl | rfl | rfl <;> simp [World.cell?, hm, MuteD.day]
theorem Boxes.f {m : MuteD} {n k : Int} {b : Nat} {W : World} (h : Boxes m n k b W) : W.cell? ⟨b, 8, none⟩ = some (.int .i64 m.f) := by simp [World.cell?, h.m0]
theorem Boxes.t {m : MuteD} {n k : Int} {b : Nat} {W : World} (h : Boxes m n k b W) : W.cell? ⟨b, 9, none⟩ = some (.int .i64 m.t) := by simp [World.cell?, h.m0]
theorem Boxes.n {m : MuteD} {n k : Int} {b : Nat} {W : World} (h : Boxes m n k b W) : W.cell? ⟨b + 1, 0, none⟩ = some (.int .i64 n) := by simp [World.cell?, h.n0]
theorem Boxes.k {m : MuteD} {n k : Int} {b : Nat} {W : World} (h : Boxes m n k b W) : W.cell? ⟨b + 2, 0, none⟩ = some (.int .i64 k) := by simp [World.cell?, h.k0]

/-- how an iterator ends, behind a name -/
def SP {α : Type} (S Sp : List α → Prop) (J Jx : List α → World → Prop) (e : Ending) (W' : World) : Prop := (∃ v, e = .returned v) ∧ ((∃ xs, S xs ∧ J xs W') ∨ (∃ pre, Sp pre ∧ Jx pre W'))
theorem SP.done {α : Type} {S Sp : List α → Prop} {J Jx : List α → World → Prop} {v : Value} {W' : World} (xs : List α) (h : S xs) (hJ : J xs W') : SP S Sp J Jx (.returned v) W' := ⟨⟨_, rfl⟩, .inl ⟨xs, h, hJ⟩⟩
theorem SP.stop {α : Type} {S Sp : List α → Prop} {J Jx : List α → World → Prop} {v : Value} {W' : World} (pre : List α) (h : Sp pre) (hJ : Jx pre W') : SP S Sp J Jx (.returned v) W' := ⟨⟨_, rfl⟩, .inr ⟨pre, h, hJ⟩⟩

set_option maxRecDepth 100000 in
set_option maxHeartbeats 2000000 in
theorem stretches1_stops (N b K : Nat) (m : MuteD) (q : Int) (w : World) (hN : 3 ≤ N) (hB : Boxes m q K b w) (hq0 : 0 ≤ q) (hq1 : q ≤ 1099511627776) (hK : K ≤ 9) :
    SeqStopsK Fence.wide N Try.prog 41 #[.pointer (some ⟨b, 0, none⟩), .pointer (some ⟨b + 1, 0, none⟩), .pointer (some ⟨b + 1 + 1, 0, none⟩)] encP (KB3 b) (fun xs => xs = strs m q (K + 1))
      (fun pre => ∃ k : Nat, k ≤ K ∧ m.ok ∧ m.on (q / 1440 - 1 + k) ∧ pre = strl m (q / 1440 - 1) (k + 1)) (K + 1) w := fun l J Jx W hW hJ hJx hY h0 => by
  have hBW : Boxes m q K b W := hB.keep (KB3.of_below hW hB.lt)
  have h1n : 1 ≤ N := by omega
  have h2n : 1 ≤ N - 1 := by omega
  have cf := hBW.f
  have ct := hBW.t
  show CallsIn _ _ _ _ _ _ (SP (fun xs => xs = strs m q (K + 1)) (fun pre => ∃ k : Nat, k ≤ K ∧ m.ok ∧ m.on (q / 1440 - 1 + k) ∧ pre = strl m (q / 1440 - 1) (k + 1)) J Jx)
  by_cases hok : m.ok
  · have hok' := hok
    obtain ⟨g1, g2, g3, g4⟩ := hok'
    have cn := hBW.n
    refine callsIn_of_wp Try.func41 rfl trivial ?_ rfl
    simp only [Try.ntmps41, List.size_toArray, List.length_cons, List.length_nil, Nat.reduceAdd, Nat.reduceSub, Array.replicate_succ, Array.replicate_zero, List.push_toArray, List.append_toArray, List.nil_append, List.cons_append]
    gi_wp2
    gi_loopw [6] (fun a wr => ∃ k : Nat, k ≤ K + 1 ∧ a = .int .i64 (1440 * (q / 1440 - 1 + k)) ∧ J (strl m (q / 1440 - 1) k) wr ∧ Boxes m q K b wr) (fun a wr => (1440 * (q / 1440 - 1 + K + 1) - intOf a).toNat)
    case atStart => exact ⟨0, by omega, by simp; omega, h0, hBW⟩
    case round =>
      obtain ⟨k, hk, rfl, hJs, hBr⟩ := hrel
      have cf := hBr.f; have ct := hBr.t; have cn := hBr.n; have ck := hBr.k
      by_cases hkK : k ≤ K
      · obtain ⟨D, hD⟩ : ∃ D, D = q / 1440 - 1 + (k : Int) := ⟨_, rfl⟩
        have hD0 : -1 ≤ D := by omega
        have hD1 : D ≤ 763549750 := by omega
        have hD2 : D ≤ q / 1440 - 1 + K := by omega
        have hnext : 1440 * D + 1440 = 1440 * (q / 1440 - 1 + ((k + 1 : Nat) : Int)) := by omega
        rw [← hD]
        have HN := Lib.hid hnext
        have HD := Lib.hid hD
        clear hD hnext
        by_cases hbad : D < 0 ∨ 763549741 < D
        · have hno : ¬ m.on D := fun h => by have := h.1; have := h.2.1; omega
          have hbad' : 1440 * D < 0 ∨ 1099511627776 < 1440 * D := by omega
          have HB := Lib.hid hbad'
          clear hbad hbad'
          gi_wp2
          refine ⟨trivial, ?_⟩
          refine (callsIn_wide.2 (date_no _ _ HB.out)).mono ?_
          rintro e w1 ⟨rfl, hb1⟩
          have hb2 : Below wr.heap.size wr (w1.alloc (.cells #[.int .i64 0, .int .i64 0, .int .i64 0, .int .i64 0, .int .i64 0] 61)) := hb1.alloc hb1.size _
          gi_wp2
          go_roundw
          case rel =>
            refine ⟨k + 1, by omega, by rw [HN.out], ?_, hBr.keep (KB3.of_below hb2 hBr.lt)⟩
            have e : strl m (q / 1440 - 1) (k + 1) = strl m (q / 1440 - 1) k := by
              show strl m (q / 1440 - 1) k ++ _ = _
              rw [← HD.out, if_neg hno, List.append_nil]
            rw [e]
            exact hJ _ _ _ none hJs (grown_of_below hb2 none) (fun r e => by cases e)
          case measure => simp [intOf]; omega
        · have hD3 : 0 ≤ D := by omega
          have hD4 : D ≤ 763549741 := by omega
          obtain ⟨wd, hwd⟩ : ∃ wd, (D + 3) % 7 = wd := ⟨_, rfl⟩
          have hwd0 : 0 ≤ wd := by omega
          have hwd1 : wd < 7 := by omega
          have cd := hBr.day wd hwd0 hwd1
          have KD : Hid (∀ w, Calls Try.prog 32 #[.int .i64 (1440 * D)] w fun e w' => e = .returned (.tuple #[.agg #[.int .i64 (Civ.yOf (D + 719162)), .int .i64 (Civ.mOf (D + 719162)), .int .i64 (Civ.dOf (D + 719162)), .int .i64 wd, .int .i64 0], .int .i64 0]) ∧ Below w.heap.size w w') :=
            Lib.hid (fun w => date_v (1440 * D) (D + 719162) wd 0 w (by omega) (by omega) (by omega) (by omega) (by omega))
          clear hbad
          gi_wp2
          refine ⟨trivial, ?_⟩
          refine (callsIn_wide.2 (KD.out _)).mono ?_
          rintro e w1 ⟨rfl, hb1⟩
          have hb2 : Below wr.heap.size wr (w1.alloc (.cells #[.int .i64 (Civ.yOf (D + 719162)), .int .i64 (Civ.mOf (D + 719162)), .int .i64 (Civ.dOf (D + 719162)), .int .i64 wd, .int .i64 0] 61)) := hb1.alloc hb1.size _
          have hB1 := hBr.keep (KB3.of_below hb1 hBr.lt)
          have hB2 := hBr.keep (KB3.of_below hb2 hBr.lt)
          have hJ2 : J (strl m (q / 1440 - 1) k) (w1.alloc (.cells #[.int .i64 (Civ.yOf (D + 719162)), .int .i64 (Civ.mOf (D + 719162)), .int .i64 (Civ.dOf (D + 719162)), .int .i64 wd, .int .i64 0] 61)) := hJ _ _ _ none hJs (grown_of_below hb2 none) (fun r e => by cases e)
          have HJ2 := Lib.hid hJ2
          clear cf ct cn ck cd hb1 hb2 hJ2 KD
          have hlt := hB1.lt
          have cf := hB2.f; have ct := hB2.t; have cn := hB2.n; have ck := hB2.k; have cd := hB2.day wd hwd0 hwd1
          cases hday : m.day wd with
          | false =>
            have hno : ¬ m.on D := fun h => by have := h.2.2; rw [hwd, hday] at this; cases this
            rw [hday] at cd
            have HNO := Lib.hid hno
            clear hday hno hwd
            gi_wp2
            go_roundw
            case rel =>
              refine ⟨k + 1, by omega, by rw [HN.out], ?_, hB2⟩
              have e : strl m (q / 1440 - 1) (k + 1) = strl m (q / 1440 - 1) k := by
                show strl m (q / 1440 - 1) k ++ _ = _
                rw [← HD.out, if_neg HNO.out, List.append_nil]
              rw [e]
              exact HJ2.out
            case measure => simp [intOf]; omega
          | true =>
            have hon : m.on D := ⟨hD3, hD4, by rw [hwd]; exact hday⟩
            rw [hday] at cd
            have e : strl m (q / 1440 - 1) (k + 1) = strl m (q / 1440 - 1) k ++ [(1440 * D + m.f, 1440 * D + m.hi)] := by
              show strl m (q / 1440 - 1) k ++ _ = _
              rw [← HD.out, if_pos hon]
            have HE := Lib.hid e
            have HON := Lib.hid hon
            clear hday hon e hwd
            by_cases htf : m.t ≤ m.f
            · have hhi : m.hi = m.t + 1440 := by unfold MuteD.hi; rw [if_pos htf]
              rw [hhi, show 1440 * D + (m.t + 1440) = 1440 * D + m.t + 1440 from by omega] at HE
              clear hhi
              obtain ⟨fn, tmps, assign, body, hy, hR⟩ := hY (strl m (q / 1440 - 1) k) (1440 * D + m.f, 1440 * D + m.t + 1440) _ HJ2.out (by have := strl_len m (q / 1440 - 1) k; omega)
              gi_wp2
              refine hR.mono ?_
              rintro e W3 (⟨rfl, hJ3, hk3⟩ | ⟨rfl, hJx3⟩)
              · have hB3 := hB2.keep hk3
                gi_wp2
                go_roundw
                case rel => exact ⟨k + 1, by omega, by rw [HN.out], by rw [HE.out]; exact hJ3, hB3⟩
                case measure => simp [intOf]; omega
              · gi_wp2
                refine bodyPost_ret (results_none rfl _ _ _) rfl ?_
                exact SP.stop _ ⟨k, hkK, hok, by rw [← HD.out]; exact HON.out, rfl⟩ (by rw [HE.out]; exact hJx3)
            · have hhi : m.hi = m.t := by unfold MuteD.hi; rw [if_neg htf]
              rw [hhi] at HE
              clear hhi
              obtain ⟨fn, tmps, assign, body, hy, hR⟩ := hY (strl m (q / 1440 - 1) k) (1440 * D + m.f, 1440 * D + m.t) _ HJ2.out (by have := strl_len m (q / 1440 - 1) k; omega)
              gi_wp2
              refine hR.mono ?_
              rintro e W3 (⟨rfl, hJ3, hk3⟩ | ⟨rfl, hJx3⟩)
              · have hB3 := hB2.keep hk3
                gi_wp2
                go_roundw
                case rel => exact ⟨k + 1, by omega, by rw [HN.out], by rw [HE.out]; exact hJ3, hB3⟩
                case measure => simp [intOf]; omega
              · gi_wp2
                refine bodyPost_ret (results_none rfl _ _ _) rfl ?_
                exact SP.stop _ ⟨k, hkK, hok, by rw [← HD.out]; exact HON.out, rfl⟩ (by rw [HE.out]; exact hJx3)
      · have hlt : K < k := by omega
        clear hkK
        gi_wp2
        go_end0
        obtain rfl : k = K + 1 := by omega
        exact SP.done _ (by unfold strs; rw [if_pos hok]) hJs
  · have hno : strs m q (K + 1) = [] := by unfold strs; rw [if_neg hok]
    have HNO := Lib.hid hno
    clear hno
    by_cases g1 : m.f < 0
    · refine callsIn_of_wp Try.func41 rfl trivial ?_ rfl
      simp only [Try.ntmps41, List.size_toArray, List.length_cons, List.length_nil, Nat.reduceAdd, Nat.reduceSub, Array.replicate_succ, Array.replicate_zero, List.push_toArray, List.append_toArray, List.nil_append, List.cons_append]
      gi_wp2
      refine bodyPost_ret (results_none rfl _ _ _) rfl ?_
      exact SP.done [] HNO.out.symm h0
    by_cases g2 : 1440 ≤ m.f
    · refine callsIn_of_wp Try.func41 rfl trivial ?_ rfl
      simp only [Try.ntmps41, List.size_toArray, List.length_cons, List.length_nil, Nat.reduceAdd, Nat.reduceSub, Array.replicate_succ, Array.replicate_zero, List.push_toArray, List.append_toArray, List.nil_append, List.cons_append]
      gi_wp2
      refine bodyPost_ret (results_none rfl _ _ _) rfl ?_
      exact SP.done [] HNO.out.symm h0
    by_cases g3 : m.t < 1
    · refine callsIn_of_wp Try.func41 rfl trivial ?_ rfl
      simp only [Try.ntmps41, List.size_toArray, List.length_cons, List.length_nil, Nat.reduceAdd, Nat.reduceSub, Array.replicate_succ, Array.replicate_zero, List.push_toArray, List.append_toArray, List.nil_append, List.cons_append]
      gi_wp2
      refine bodyPost_ret (results_none rfl _ _ _) rfl ?_
      exact SP.done [] HNO.out.symm h0
    · have g4 : 1440 < m.t := by unfold MuteD.ok at hok; omega
      refine callsIn_of_wp Try.func41 rfl trivial ?_ rfl
      simp only [Try.ntmps41, List.size_toArray, List.length_cons, List.length_nil, Nat.reduceAdd, Nat.reduceSub, Array.replicate_succ, Array.replicate_zero, List.push_toArray, List.append_toArray, List.nil_append, List.cons_append]
      gi_wp2
      refine bodyPost_ret (results_none rfl _ _ _) rfl ?_
      exact SP.done [] HNO.out.symm h0

end Go.Proofs.Ytajflljemfgkiaa
