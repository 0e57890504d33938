/- (*Queue).All, Cost; Twin, Twins -/
import Derived.Test.YthligipgmicgfaaQPush
namespace Go.Proofs.Ythligipgmicgfaa
open Go.RowKit
attribute [local go_sem] Oper.semAt_some

/-- items in memory of the caller's own -/
def ItsTo (e0 : TypeId) (xs : List It) (w : World) (e : Ending) (w' : World) : Prop := ∃ v rs, e = .returned v ∧ Rws (fun k => w.heap.size ≤ k ∧ v.ownBlock ≠ some k) w' w.heap.size e0 v xs rs ∧ Below w.heap.size w w'
theorem Rws.kept {S F : Nat → Prop} {W W' : World} {base : Nat} {e : TypeId} {v : Value} {xs : List It} {rs : List (Value × It)} (h : Rws S W base e v xs rs) (hk : Kept F W W') (hf : ∀ k, k < W.heap.size → S k → ¬ F k) (hv : ∀ k, k < W.heap.size → v.ownBlock = some k → ¬ F k) : Rws S W' base e v xs rs :=
  ⟨h.map, owns_keep h.own (fun k hk' => hk.block k (h.own.lt k hk').2 (hv k (h.own.lt k hk').2 hk')), fun r hr => (h.lab r hr).kept hk hf⟩
theorem Rws.below {S : Nat → Prop} {W W' : World} {base : Nat} {e : TypeId} {v : Value} {xs : List It} {rs : List (Value × It)} (h : Rws S W base e v xs rs) (hb : Below W.heap.size W W') : Rws S W' base e v xs rs :=
  h.kept (F := fun _ => False) (kept_of_below hb) (fun _ _ _ x => x) (fun _ _ _ x => x)
/-- one row more -/
theorem Rws.snoc {W W' : World} {base : Nat} {e : TypeId} {v v' : Value} {xs : List It} {rs : List (Value × It)} {lv : Value} {x : It} (h : Rws (fun k => base ≤ k ∧ v.ownBlock ≠ some k) W base e v xs rs) (hl : Lw (fun k => base ≤ k ∧ v.ownBlock ≠ some k) W lv x.ls)
    (ho : W'.ownsRow base e 4 v' (rs ++ [(lv, x)]).length ((rs ++ [(lv, x)]).flatMap encI)) (hk : Kept (fun k => v.ownBlock = some k) W W') (hat : v'.ownBlock = v.ownBlock ∨ v'.ownBlock = some W.heap.size) : Rws (fun k => base ≤ k ∧ v'.ownBlock ≠ some k) W' base e v' (xs ++ [x]) (rs ++ [(lv, x)]) := by
  have key : ∀ (v0 : Value) (ls : List Lbl), Lw (fun k => base ≤ k ∧ v.ownBlock ≠ some k) W v0 ls → Lw (fun k => base ≤ k ∧ v'.ownBlock ≠ some k) W' v0 ls := fun v0 ls h0 => by
    refine (h0.mono (T := fun k => base ≤ k ∧ v.ownBlock ≠ some k ∧ v'.ownBlock ≠ some k) (fun k hk' h1 => ⟨h1.1, h1.2, fun e => ?_⟩)).kept hk (fun k _ h1 => h1.2.1) |>.mono (fun k _ h1 => ⟨h1.1, h1.2.2⟩)
    rcases hat with e1 | e1
    · exact h1.2 (e1 ▸ e)
    · rw [e1] at e
      simp only [Option.some.injEq] at e
      omega
  refine ⟨by rw [List.map_append, h.map]; rfl, ho, fun r hr => ?_⟩
  rcases List.mem_append.1 hr with hr | hr
  · exact key _ _ (h.lab r hr)
  · obtain rfl : r = (lv, x) := by simpa using hr
    exact key _ _ hl

theorem all_no {q : Value} {w : World} (h : QNo w q) : Calls Try.prog 16 #[q] w (Is (.slice none 0 0) w) := by
  have HN := Lib.hid (none_no h)
  clear h
  go_enter Try.func16, Try.ntmps16
  go_wp2_with fail
  refine HN.out.mono ?_
  rintro e w1 ⟨rfl, rfl⟩
  go_wp2
  go_ret
  exact ⟨rfl, rfl⟩
theorem one_row {p : Option Addr} {n c : Nat} {x : It} : ∀ r ∈ [((.slice p n c : Value), x)], ∀ u ∈ encI r, u.oneCell' = true := by
  intro r hr u hu
  obtain rfl : r = (.slice p n c, x) := by simpa using hr
  simp at hu
  rcases hu with rfl | rfl | rfl | rfl <;> rfl
theorem take_snoc {α : Type} {xs : List α} {i : Nat} {x : α} (h : xs[i]? = some x) : xs.take (i + 1) = xs.take i ++ [x] := by
  rw [List.take_add_one, h]; rfl
set_option maxRecDepth 100000 in
set_option maxHeartbeats 2000000 in
theorem all_any {S : Nat → Prop} {p : Nat} {w : World} {xs : List It} (h : QAt S p w xs) (hn : xs.length ≤ 100000) : Calls Try.prog 16 #[qv p] w (ItsTo 32 xs w) := by
  have HN := Lib.hid (none_any h)
  obtain ⟨v, h1, h2, h3⟩ := h
  obtain ⟨c, z⟩ := h1.rd
  obtain ⟨i0, hi, hi0, hi1, hi2⟩ := info_parts info_item
  have HI := Lib.hid hi
  have HI0 := Lib.hid hi0
  have HI1 := Lib.hid hi1
  have HI2 := Lib.hid hi2
  clear h1 h3 hi hi0 hi1 hi2
  rcases h2 with ⟨rfl, rfl⟩ | ⟨a, cap, rs, rfl, k1, k2, k3⟩
  · go_enter Try.func16, Try.ntmps16
    go_wp2_with fail
    refine HN.out.mono ?_
    rintro e w1 ⟨rfl, rfl⟩
    go_wp2
    go_loopw [3, 13] (fun o i wr => o = .slice none 0 0 ∧ i = .int .i64 0 ∧ wr = w) (fun _ _ _ => 0)
    · exact ⟨rfl, rfl, rfl⟩
    obtain ⟨rfl, rfl, rfl⟩ := hrel
    go_wp2
    go_ret
    exact ⟨_, [], rfl, Rws.none _ _ _ _, Below.refl _ _⟩
  · have HK := Lib.hid k3
    clear k3
    go_enter Try.func16, Try.ntmps16
    go_wp2_with fail
    refine HN.out.mono ?_
    rintro e w1 ⟨rfl, rfl⟩
    go_wp2
    go_loopw [3, 13] (fun o i wr => ∃ (k : Nat) (qs : List (Value × It)), i = .int .i64 k ∧ k ≤ xs.length ∧ Rws (fun b => w.heap.size ≤ b ∧ o.ownBlock ≠ some b) wr w.heap.size 32 o (xs.take k) qs ∧ Below w.heap.size w wr) (fun _ i _ => xs.length - (intOf i).toNat)
    · exact ⟨0, [], rfl, by omega, Rws.none _ _ _ _, Below.refl _ _⟩
    obtain ⟨k, qs, rfl, hk, hR, hB⟩ := hrel
    by_cases hlt : k < xs.length
    · obtain ⟨x, hx⟩ : ∃ x, xs[k]? = some x := ⟨_, List.getElem?_eq_getElem hlt⟩
      obtain ⟨lv, hl, _, _, x0, x1, x2, x3⟩ := (HK.out.below hB).at hx
      obtain ⟨p1, q1, rfl⟩ := hl.slice
      have HTS := Lib.hid (take_snoc hx)
      have hkk : (k : Int) < 9223372036854775807 := by omega
      have HL := Lib.hid hl
      have HR := Lib.hid hR
      have hql : qs.length ≤ 100000 := by have := hR.len; rw [List.length_take] at this; omega
      clear hx hl hR
      go_wp2_with fail
      have hba : Below wr.heap.size wr (wr.alloc (.cells #[.slice p1 x.ls.length q1, .int .i64 x.at_, .int .i64 x.vl, .int .i64 x.cost] 32)) := (Below.refl _ wr).alloc (Nat.le_refl _) _
      refine (twin_any (HL.out.below hba)).mono ?_
      rintro e w1 ⟨l1, rfl, hl1, hb1⟩
      obtain ⟨p2, q2, rfl⟩ := hl1.lb.slice
      replace hb1 := below_then hba hb1
      have hB1 := below_then hB hb1
      have hBs := hB.size
      have hs1 := hb1.size
      have hb2 : Below wr.heap.size wr (w1.alloc (.cells #[.slice p2 x.ls.length q2, .int .i64 x.at_, .int .i64 x.vl, .int .i64 x.cost] 32)) := hb1.alloc hb1.size _
      have hR2 := Lib.hid (HR.out.below hb2)
      have hL2 := Lib.hid ((hl1.below (W' := w1.alloc (.cells #[.slice p2 x.ls.length q2, .int .i64 x.at_, .int .i64 x.vl, .int .i64 x.cost] 32)) ((Below.refl _ w1).alloc (Nat.le_refl _) _)).mono (T := fun b => w.heap.size ≤ b ∧ u3.ownBlock ≠ some b) (fun b _ hb => by
        rw [World.size_alloc] at hb
        exact ⟨by omega, fun e => by have := (HR.out.own.lt b e).2; omega⟩))
      clear x0 x1 x2 x3 hba
      go_wp2_with (at_builtin; (refine wpList_append_sl encI_len rfl (.tmp 17) (.tmp 20) 36 rfl w.heap.size 32 i0 _ 48 Try.underlying36 HI.out HI0.out HI1.out HI2.out rfl (by decide) (v := u3) (xs := qs) (ys := [(.slice p2 x.ls.length q2, x)]) (by rfl) (by rfl) hR2.out.own (Sl.one (S := fun _ => True) encI_len (Box.new _ _ _) rfl trivial) one_row (by simp only [List.length_cons, List.length_nil]; unfold maxLen; omega) (by simp only [List.length_cons, List.length_nil]; omega) (by rw [World.size_alloc]; omega) ?_); intro v2 w2 hown hk2 hat)
      refine ⟨⟨k + 1, _, by simp, by omega, by rw [HTS.out]; exact hR2.out.snoc hL2.out hown hk2 hat, ?_⟩, by simp [intOf]; omega⟩
      exact (below_then hB hb2).trans (hk2.below (fun b e => by have := (HR.out.own.lt b e).1; omega) (below_then hB hb2).size)
    · obtain rfl : k = xs.length := by omega
      go_wp2
      go_ret
      rw [List.take_length] at hR
      exact ⟨_, qs, rfl, hR, hB⟩
theorem Rws.mono {S T : Nat → Prop} {W : World} {base : Nat} {e : TypeId} {v : Value} {xs : List It} {rs : List (Value × It)} (h : Rws S W base e v xs rs) (hS : ∀ k, k < W.heap.size → S k → T k) : Rws T W base e v xs rs :=
  ⟨h.map, h.own, fun r hr => (h.lab r hr).mono hS⟩
theorem Rws.all {W : World} {base : Nat} {e : TypeId} {v : Value} {xs : List It} {rs : List (Value × It)} (h : Rws (fun k => base ≤ k ∧ v.ownBlock ≠ some k) W base e v xs rs) : Its (fun k => base ≤ k) W v xs :=
  (h.mono (T := fun k => base ≤ k) (fun _ _ h => h.1)).its (fun k e => (h.own.lt k e).1)
/-- the sum of the costs -/
def costs (xs : List It) : Int := (xs.map It.cost).sum
theorem costs_snoc (xs : List It) (x : It) : costs (xs ++ [x]) = costs xs + x.cost := by
  unfold costs
  rw [List.map_append, List.sum_append]
  simp
theorem costs_le {xs : List It} (h : ∀ x ∈ xs, 1 ≤ x.cost ∧ x.cost ≤ 256) : 0 ≤ costs xs ∧ costs xs ≤ 256 * xs.length := by
  induction xs with
  | nil => simp [costs]
  | cons x xs ih =>
    have h1 := ih (fun y hy => h y (List.mem_cons_of_mem _ hy))
    have h2 := h x (List.mem_cons_self)
    unfold costs at h1 ⊢
    rw [List.map_cons, List.sum_cons, List.length_cons]
    omega
set_option maxRecDepth 100000 in
set_option maxHeartbeats 2000000 in
theorem cost_any {S : Nat → Prop} {p : Nat} {w : World} {xs : List It} (h : QAt S p w xs) (hn : xs.length ≤ 100000) (hc : ∀ x ∈ xs, 1 ≤ x.cost ∧ x.cost ≤ 256) : Calls Try.prog 23 #[qv p] w (Tells (.int .i64 (costs xs)) w) := by
  have HA := Lib.hid (all_any h hn)
  have HC := Lib.hid hc
  clear h hc
  go_enter Try.func23, Try.ntmps23
  go_wp2_with fail
  refine HA.out.mono ?_
  rintro e w1 ⟨v, rs, rfl, hR, hB⟩
  rcases hR.all with ⟨rfl, rfl⟩ | ⟨a, cap, qs, rfl, k1, k2, k3⟩
  · clear hR
    go_wp2
    go_loopw [3, 9] (fun o i wr => o = .int .i64 0 ∧ i = .int .i64 0 ∧ wr = w1) (fun _ _ _ => 0)
    · exact ⟨rfl, rfl, rfl⟩
    obtain ⟨rfl, rfl, rfl⟩ := hrel
    go_wp2
    go_ret
    exact ⟨rfl, hB⟩
  · have HK := Lib.hid k3
    clear k3 hR
    go_wp2
    go_loopw [3, 9] (fun o i wr => ∃ k : Nat, o = .int .i64 (costs (xs.take k)) ∧ i = .int .i64 k ∧ k ≤ xs.length ∧ Below w1.heap.size w1 wr) (fun _ i _ => xs.length - (intOf i).toNat)
    · exact ⟨0, rfl, rfl, by omega, Below.refl _ _⟩
    obtain ⟨k, rfl, rfl, hk, hb⟩ := hrel
    by_cases hlt : k < xs.length
    · obtain ⟨x, hx⟩ : ∃ x, xs[k]? = some x := ⟨_, List.getElem?_eq_getElem hlt⟩
      obtain ⟨lv, hl, _, _, x0, x1, x2, x3⟩ := (HK.out.below hb).at hx
      obtain ⟨p1, q1, rfl⟩ := hl.slice
      have hcx := HC.out x (List.mem_of_getElem? hx)
      have hct := costs_le (xs := xs.take k) (fun y hy => HC.out y (List.mem_of_mem_take hy))
      rw [List.length_take] at hct
      have hts : costs (xs.take (k + 1)) = costs (xs.take k) + x.cost := by rw [take_snoc hx, costs_snoc]
      obtain ⟨s0, hs0⟩ : ∃ s, costs (xs.take k) = s := ⟨_, rfl⟩
      rw [hs0] at hct hts ⊢
      have HTS := Lib.hid hts
      have hlo := hct.1
      have hhi : s0 ≤ 25600000 := by omega
      have hc1 := hcx.1
      have hc2 := hcx.2
      clear hx hl hts hs0 hct hcx
      go_wp2
      exact ⟨⟨k + 1, by rw [HTS.out], by simp, by omega, hb.alloc hb.size _⟩, by simp [intOf]; omega⟩
    · obtain rfl : k = xs.length := by omega
      go_wp2
      go_ret
      rw [List.take_length]
      exact ⟨rfl, below_then hB hb⟩
end Go.Proofs.Ythligipgmicgfaa
