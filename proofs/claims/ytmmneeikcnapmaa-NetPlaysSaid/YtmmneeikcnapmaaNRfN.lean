/- The reference's Copy, and its Net: Send. (Its second part is printed by tools/refnet.py out of XNNet.) -/
import Derived.Test.YtmmneeikcnapmaaNOrd
import Derived.Deep.DeepCutAuto
namespace Go.Proofs.Ytmmneeikcnapmaa
open Go.RowKit
attribute [local go_sem] Oper.semAt_some

set_option maxRecDepth 100000 in
set_option maxHeartbeats 1000000 in
theorem copy_any {S : Nat → Prop} {x : Mr} {w : World} (h : Mo S w x) (hf : Few x.m) :
    Calls Try.prog 19 #[mv x] w (TwinTo x.m w) := by
  obtain ⟨kv, sv, m⟩ := x
  obtain ⟨q1, d1, e3, -, -⟩ := h.k.len
  obtain ⟨q2, d2, e4, -, -⟩ := h.s.len
  simp only at e3 e4 hf ⊢
  subst e3 e4
  have b1 := (Box.new w (mc ⟨.slice q1 m.ks.length d1, .slice q2 m.ss.length d2, m⟩) 33).alloc (.cells zm 33)
  have b2 := Box.new (w.alloc (.cells (mc ⟨.slice q1 m.ks.length d1, .slice q2 m.ss.length d2, m⟩) 33)) zm 33
  rw [World.size_alloc] at b2
  have hb : Below w.heap.size w ((w.alloc (.cells (mc ⟨.slice q1 m.ks.length d1, .slice q2 m.ss.length d2, m⟩) 33)).alloc (.cells zm 33)) := ((Below.refl _ w).alloc (Nat.le_refl _) _).alloc (by simp) _
  obtain ⟨i0, hi, hi0, hi1, hi2⟩ := info_parts info_string
  obtain ⟨j0, hj, hj0, hj1, hj2⟩ := info_parts info_int
  have HI := Lib.hid hi
  have HI0 := Lib.hid hi0
  have HI1 := Lib.hid hi1
  have HI2 := Lib.hid hi2
  have HJ := Lib.hid hj
  have HJ0 := Lib.hid hj0
  have HJ1 := Lib.hid hj1
  have HJ2 := Lib.hid hj2
  have HK := Lib.hid (h.k.below hb)
  have HS := Lib.hid (h.s.below hb)
  have hf1 := hf.1
  have hf2 := hf.2
  obtain ⟨W, hW⟩ : ∃ W, ((w.alloc (.cells (mc ⟨.slice q1 m.ks.length d1, .slice q2 m.ss.length d2, m⟩) 33)).alloc (.cells zm 33)) = W := ⟨_, rfl⟩
  rw [hW] at b1 b2 hb HK HS
  have HW := Lib.hid hW
  have hl2 := b2.lt
  have HB := Lib.hid hb
  have B1 := Lib.hid b1
  have B2 := Lib.hid b2
  obtain ⟨c1, f1⟩ := b1.rd
  clear hi hi0 hi1 hi2 hj hj0 hj1 hj2 h hf hW hb b1 b2
  go_enter Try.func19, Try.ntmps19
  go_upto_region 3 with fail
  rw [HW.out]
  go_wp2_with (first | (at_builtin; refine wpList_append_sl encS_len rfl (.tmp 5) (.tmp 7) 31 rfl W.heap.size 9 i0 _ 16 Try.underlying31 HI.out HI0.out HI1.out HI2.out rfl (by decide) (v := .slice none 0 0) (xs := []) (ys := m.ks) rfl rfl (World.ownsRow_nil _ _ _ _) HK.out (by simp [Value.oneCell']) (by unfold maxLen; simp; omega) (by simp; omega) (Nat.le_refl _) ?_; intro v1 w1 hown1 hk1 hat1; rw [List.nil_append] at hown1; obtain ⟨p1, r1, rfl⟩ := owns_slice hown1; have hb1 := hk1.below (B := W.heap.size) (fun k e => by simp [Value.ownBlock] at e) (Nat.le_refl _); have HO1 := Lib.hid hown1; have HB1 := Lib.hid hb1; have hs1 := hb1.size; have c1 := (B1.out.below hb1).rd.1; clear hown1 hk1 hat1 hb1) | (at_builtin; refine wpList_append_sl encJ_len rfl (.tmp 9) (.tmp 11) 23 rfl w1.heap.size 3 j0 _ 8 Try.underlying23 HJ.out HJ0.out HJ1.out HJ2.out rfl (by decide) (v := .slice none 0 0) (xs := []) (ys := m.ss) rfl rfl (World.ownsRow_nil _ _ _ _) (HS.out.below HB1.out) (by simp [Value.oneCell']) (by unfold maxLen; simp; omega) (by simp; omega) (Nat.le_refl _) ?_; intro v2 w2 hown2 hk2 hat2; rw [List.nil_append] at hown2; obtain ⟨p2, r2, rfl⟩ := owns_slice hown2; have hb2 := hk2.below (B := w1.heap.size) (fun k e => by simp [Value.ownBlock] at e) (Nat.le_refl _); have HO2 := Lib.hid hown2; have HB2 := Lib.hid hb2; have hs2 := hb2.size; have HB12 := Lib.hid (below_then HB1.out hb2); obtain ⟨c1, f1⟩ := (B1.out.below HB12.out).rd; obtain ⟨c2, f2⟩ := (B2.out.below HB12.out).rd; clear hown2 hk2 hat2 hb2))
  refine bodyPost_gen (fun W' => Kept (fun b => b = w.heap.size ∨ b = w.heap.size + 1) w2 W' ∧ Box W' (w.heap.size + 1) (mc ⟨.slice p1 m.ks.length r1, .slice p2 m.ss.length r2, m⟩) 33) ⟨?_, ?_⟩ ?_
  · exact (((((((Kept.refl _ w2).setCell _ _ (by simp)).setCell _ _ (by simp)).setCell _ _ (by simp)).setCell _ _ (by simp)).setCell _ _ (by simp)).setCell _ _ (by simp)).setCell _ _ (by simp)
  · exact ((((((((B2.out.below HB12.out).other _ (by omega)).other _ (by omega)).set _).set _).set _).set _).set _)
  rintro W' ⟨hk, hm⟩
  obtain ⟨r0, _⟩ := hm.rd
  refine bodyPost_ret (v := mv ⟨.slice p1 m.ks.length r1, .slice p2 m.ss.length r2, m⟩) ?_ rfl ?_
  · simp [results, Try.results19, go_sem, r0]
  · have hsz := HB.out.size
    refine ⟨⟨.slice p1 m.ks.length r1, .slice p2 m.ss.length r2, m⟩, rfl, rfl, ⟨owns_lower (owns_keep (owns_keep HO1.out (fun b e => HB2.out.block b (HO1.out.lt b e).2)) (fun b e => hk.block b (Nat.lt_of_lt_of_le (HO1.out.lt b e).2 HB2.out.size) (by have := (HO1.out.lt b e).1; omega))) (by omega), owns_lower (owns_keep HO2.out (fun b e => hk.block b (HO2.out.lt b e).2 (by have := (HO2.out.lt b e).1; omega))) (by omega), fun b e1 e2 => ?_⟩, (HB.out.trans (HB12.out.mono hsz)).trans (hk.below (fun i hi => by omega) (by omega))⟩
    have := (HO1.out.lt b e1).2
    have := (HO2.out.lt b e2).1
    omega
/-- a net that was made -/
structure RfIn (S : Nat → Prop) (p : Nat) (W : World) (v : Value) (rs : List Mr) : Prop where
  box : Box W p #[v] 44
  own : W.ownsRow 0 33 5 v rs.length (rs.flatMap encM)
  os : ∀ b, v.ownBlock = some b → S b
  mo : ∀ r ∈ rs, Mo (fun b => S b ∧ v.ownBlock ≠ some b) W r
  np : ¬ S p
  few : ∀ r ∈ rs, Few r.m
def RfAt (S : Nat → Prop) (p : Nat) (W : World) (xs : List Ms) : Prop := ∃ v rs, rs.map Mr.m = xs ∧ RfIn S p W v rs
section
variable {S T F : Nat → Prop} {p : Nat} {W W' : World} {xs : List Ms}
theorem RfIn.kept {v : Value} {rs : List Mr} (h : RfIn S p W v rs) (hk : Kept F W W') (hf : ∀ k, k < W.heap.size → S k → ¬ F k) (hp : ¬ F p) : RfIn S p W' v rs :=
  ⟨h.box.kept hk hp, owns_keep h.own (fun b e => hk.block b (h.own.lt b e).2 (hf b (h.own.lt b e).2 (h.os b e))), h.os, fun r hr => (h.mo r hr).kept hk (fun b hb s => hf b hb s.1), h.np, h.few⟩
theorem RfAt.kept (h : RfAt S p W xs) (hk : Kept F W W') (hf : ∀ k, k < W.heap.size → S k → ¬ F k) (hp : ¬ F p) : RfAt S p W' xs := by
  obtain ⟨v, rs, h1, h2⟩ := h
  exact ⟨v, rs, h1, h2.kept hk hf hp⟩
theorem RfAt.below (h : RfAt S p W xs) (hb : Below W.heap.size W W') : RfAt S p W' xs := h.kept (F := fun _ => False) (kept_of_below hb) (fun _ _ _ x => x) (fun x => x)
theorem RfAt.mono (h : RfAt S p W xs) (hS : ∀ k, k < W.heap.size → S k → T k) (hp : ¬ T p) : RfAt T p W xs := by
  obtain ⟨v, rs, h1, h2⟩ := h
  exact ⟨v, rs, h1, h2.box, h2.own, fun b e => hS b (h2.own.lt b e).2 (h2.os b e), fun r hr => (h2.mo r hr).mono (fun b hb s => ⟨hS b hb s.1, s.2⟩), hp, h2.few⟩
theorem RfAt.lt (h : RfAt S p W xs) : p < W.heap.size := by
  obtain ⟨v, rs, _, h2⟩ := h
  exact h2.box.lt
theorem RfAt.few (h : RfAt S p W xs) : ∀ x ∈ xs, Few x := by
  obtain ⟨v, rs, rfl, h2⟩ := h
  intro x hx
  obtain ⟨r, hr, rfl⟩ := List.mem_map.1 hx
  exact h2.few r hr
end
def RSendTo (S : Nat → Prop) (p : Nat) (xs : List Ms) (m : Ms) (w : World) (e : Ending) (w' : World) : Prop := e = .returned (.int .i64 (sendE xs)) ∧ RfAt S p w' (sendL xs m) ∧ Kept (fun b => b = p ∨ S b) w w'
set_option maxRecDepth 100000 in
set_option maxHeartbeats 1000000 in
theorem rsend_full {S : Nat → Prop} {p : Nat} {w : World} {xs : List Ms} {r : Mr} (h : RfAt S p w xs) (hn : 16 ≤ xs.length) : Calls Try.prog 20 #[nv p, mv r] w (RSendTo S p xs r.m w) := by
  have hb0 : Below w.heap.size w (w.alloc (.cells (mc r) 33)) := (Below.refl _ w).alloc (Nat.le_refl _) _
  have HE : Hid (RSendTo S p xs r.m w (.returned (.int .i64 312)) (w.alloc (.cells (mc r) 33))) := Lib.hid ⟨by unfold sendE; rw [if_neg (by omega)], by unfold sendL; rw [if_neg (by omega)]; exact h.below hb0, kept_of_below hb0⟩
  obtain ⟨v, rs, rfl, hi⟩ := h.below hb0
  have hpl := hi.box.lt
  obtain ⟨c, z⟩ := hi.box.rd
  obtain ⟨p1, c1, rfl⟩ := owns_slice hi.own
  rw [List.length_map] at hn
  have hn' : (16 : Int) ≤ (rs.length : Int) := by omega
  clear h hi hb0
  go_enter Try.func20, Try.ntmps20
  go_wp2_with fail
  go_ret
  exact HE.out
set_option maxRecDepth 100000 in
set_option maxHeartbeats 1000000 in
theorem rsend_ok {S T : Nat → Prop} {p : Nat} {w : World} {xs : List Ms} {r : Mr} (h : RfAt S p w xs) (hm : Mo T w r) (hf : Few r.m) (hn : xs.length < 16) (hS : ∀ k, w.heap.size ≤ k → S k) : Calls Try.prog 20 #[nv p, mv r] w (RSendTo S p xs r.m w) := by
  have hb0 : Below w.heap.size w (w.alloc (.cells (mc r) 33)) := (Below.refl _ w).alloc (Nat.le_refl _) _
  have HE : Hid (∀ w', RfAt S p w' (xs ++ [r.m]) → Kept (fun b => b = p ∨ S b) w w' → RSendTo S p xs r.m w (.returned (.int .i64 0)) w') := Lib.hid fun w' h1 h2 => ⟨by unfold sendE; rw [if_pos hn], by unfold sendL; rw [if_pos hn]; exact h1, h2⟩
  have HM := Lib.hid (hm.below hb0)
  have HF := Lib.hid hf
  have b0 := Box.new w (mc r) 33
  have hpn := h.lt
  obtain ⟨v, rs, rfl, hw⟩ := h
  have hi : RfIn S p (w.alloc (.cells (mc r) 33)) v rs := hw.kept (F := fun _ => False) (kept_of_below hb0) (fun _ _ _ x => x) (fun x => x)
  obtain ⟨c, z⟩ := hi.box.rd
  obtain ⟨p1, c1, rfl⟩ := owns_slice hi.own
  have HOL : Hid (∀ b, (Value.slice p1 rs.length c1).ownBlock = some b → b < w.heap.size) := Lib.hid fun b e => (hw.own.lt b e).2
  rw [List.length_map] at hn
  have hn' : (rs.length : Int) < 16 := by omega
  have HIN := Lib.hid hi
  clear hw hi hm hf
  obtain ⟨q1, d1, q2, d2, hr⟩ := HM.out.open
  obtain ⟨m, hmm⟩ : ∃ m, m = r.m := ⟨_, rfl⟩
  rw [← hmm] at hr
  subst hr
  have HB0 := Lib.hid hb0
  have hpl := HIN.out.box.lt
  clear hmm hb0
  go_enter Try.func20, Try.ntmps20
  go_wp2_with fail
  clear c z
  obtain ⟨W, hW⟩ : ∃ W, (w.alloc (.cells (mc ⟨.slice q1 m.ks.length d1, .slice q2 m.ss.length d2, m⟩) 33)) = W := ⟨_, rfl⟩
  rw [hW] at HM HIN b0 HB0 hpl ⊢
  have HW := Lib.hid hW
  have hWs : w.heap.size < W.heap.size := b0.lt
  have HB := Lib.hid b0
  have HX := Lib.hid HIN.out.box
  clear hW b0
  obtain ⟨i0, hi, hi0, hi1, hi2⟩ := info_parts info_msg
  have HI := Lib.hid hi
  have HI0 := Lib.hid hi0
  have HI1 := Lib.hid hi1
  have HI2 := Lib.hid hi2
  clear hi hi0 hi1 hi2
  refine wp_region_ord [0, 1, 2, 3, 4, 5, 6, 7, 8, 9, 10, 11] (fun w' => Kept (fun b => (Value.slice p1 rs.length c1).ownBlock = some b) W w') 11 (by kernel_rfl) (by kernel_rfl) ?_
  have hb0 : Kept (fun b => (Value.slice p1 rs.length c1).ownBlock = some b) W W.drew := (Kept.refl _ W).drew
  have HNP : Hid (¬ (Value.slice p1 rs.length c1).ownBlock = some p) := Lib.hid fun e => HIN.out.np (HIN.out.os p e)
  have HNB : Hid (¬ (Value.slice p1 rs.length c1).ownBlock = some w.heap.size) := Lib.hid fun e => by have := HOL.out _ e; omega
  iterate 6 ((first | (refine wpOrd_free (v := ?_) rfl (by kernel_rfl) (fun _ _ _ h => h) (Or.inl ⟨rfl, fun w' hS => ?_⟩) hb0 ?_; rotate_left; (have c := (HX.out.kept hS HNP.out).rd.1; have c0 := (HB.out.kept hS HNB.out).rd.1; go_simp <;> with_reducible rfl)) | (refine wpOrd_free (v := undef) rfl (by kernel_rfl) (fun _ _ _ h => h) (Or.inr ⟨rfl, rfl⟩) hb0 ?_)); (simp only [Act.put, List.setIfInBounds_toArray, List.set_cons_zero, List.set_cons_succ]))
  refine wpOrd_sole rfl (by kernel_rfl) rfl (fun K hK => ?_)
  go_simp
  refine (copy_any (HM.out.below (Below.refl _ W).drew) HF.out).mono ?_
  rintro e w1 ⟨r1, rfl, hrm, hmw, hb1⟩
  obtain ⟨q3, d3, q4, d4, hr1⟩ := hmw.mo.open
  rw [hrm] at hr1
  subst hr1
  have hb1' : Below W.heap.size W w1 := below_then (Below.refl _ W).drew hb1
  refine hK _ _ (.inr (kept_of_below hb1')) ?_
  clear hK K hrm
  refine wpOrd_sole rfl (by kernel_rfl) rfl (fun K hK => ?_)
  go_simp
  have hb2 := hb1'.alloc hb1'.size (.cells #[.int .u32 m.rule, .string m.route, .int .i64 m.at_, .slice q3 m.ks.length d3, .slice q4 m.ss.length d4] 33)
  refine hK _ _ (.inr (kept_of_below hb2)) ?_
  clear hK K
  refine wpOrd_sole rfl (by kernel_rfl) rfl (fun K hK => ?_)
  refine wp_append_sl encM_len (.tmp 15) (.tmp 18) 22 (by rfl) 0 33 i0 _ 80 Try.underlying22 HI.out HI0.out HI1.out HI2.out (by rfl) (by decide) (v := .slice p1 rs.length c1) (xs := rs) (ys := [⟨.slice q3 m.ks.length d3, .slice q4 m.ss.length d4, m⟩]) (by rfl) (by rfl) (owns_keep HIN.out.own (fun b e => hb2.block b (HIN.out.own.lt b e).2)) (Sl.one (S := fun _ => True) encM_len (Box.new _ _ _) rfl trivial) (by simp [Value.oneCell']) (by simp only [List.length_cons, List.length_nil]; unfold maxLen; omega) (by simp only [List.length_cons, List.length_nil]; omega) (by omega) ?_
  intro v2 w2 hown hk3 hat
  obtain ⟨p4, q5, rfl⟩ := owns_slice hown
  have hk2 := Kept.first hb2 hk3
  refine hK _ _ (.inr hk2) ?_
  clear hK K
  simp only [Act.put, List.setIfInBounds_toArray]
  have c := (HX.out.kept hk2 HNP.out).rd.1
  have z := (HX.out.kept hk2 HNP.out).rd.2
  iterate 2 ((first | (refine wpOrd_free (v := ?_) rfl (by kernel_rfl) (fun _ _ _ h => h) (Or.inl ⟨rfl, fun w' hS => ?_⟩) hk2 ?_; rotate_left; (skip; go_simp <;> with_reducible rfl)) | (refine wpOrd_free (v := undef) rfl (by kernel_rfl) (fun _ _ _ h => h) (Or.inr ⟨rfl, rfl⟩) hk2 ?_)); (simp only [Act.put, List.setIfInBounds_toArray, List.set_cons_zero, List.set_cons_succ]))
  refine wpOrd_sole rfl (by kernel_rfl) rfl (fun K hK => ?_)
  go_simp
  refine hK _ _ (.inl rfl) ?_
  clear hK K
  refine ⟨by kernel_rfl, ?_⟩
  go_wp2
  go_ret
  have hw1 := hb1'.size
  rw [List.length_append, World.size_alloc] at hat
  have hat' : (Value.slice p4 (rs.length + 1) q5).ownBlock = (Value.slice p1 rs.length c1).ownBlock ∨ (Value.slice p4 (rs.length + 1) q5).ownBlock = some (w1.heap.size + 1) := hat
  rw [List.length_append] at hown
  have hne : ∀ b, (Value.slice p4 (rs.length + 1) q5).ownBlock = some b → S b ∧ b ≠ p := fun b e => by
    rcases hat' with h | h
    · rw [h] at e
      exact ⟨HIN.out.os b e, fun hb => HNP.out (hb ▸ e)⟩
    · rw [h] at e
      cases e
      exact ⟨hS _ (by omega), by omega⟩
  have hK1 : Kept (fun k => k = p) w2 (w2.setCell ⟨p, 0, none⟩ (.slice p4 (rs.length + 1) q5)) := (Kept.refl _ w2).setCell _ _ (by simp)
  have hSp : ∀ k, S k → ¬ k = p := fun k hk e => HIN.out.np (e ▸ hk)
  refine HE.out _ ⟨_, rs ++ [⟨.slice q3 m.ks.length d3, .slice q4 m.ss.length d4, m⟩], by rw [List.map_append]; rfl, (HX.out.kept hk2 HNP.out).set _, ?_, fun b e => (hne b e).1, fun r hr => ?_, HIN.out.np, fun r hr => ?_⟩ ((Kept.first HB0.out (hk2.mono (fun i _ e => Or.inr (HIN.out.os i e)))).setCell _ _ (fun _ => .inl rfl))
  · rw [List.length_append]
    exact owns_keep hown (fun b e => hK1.block b (hown.lt b e).2 (fun hb => (hne b e).2 hb))
  · have hfin : ∀ {r : Mr}, Mo (fun b => S b ∧ (Value.slice p4 (rs.length + 1) q5).ownBlock ≠ some b) w2 r → Mo (fun b => S b ∧ (Value.slice p4 (rs.length + 1) q5).ownBlock ≠ some b) (w2.setCell ⟨p, 0, none⟩ (.slice p4 (rs.length + 1) q5)) r := fun h => h.kept hK1 (fun k _ s => hSp k s.1)
    refine hfin ?_
    rcases List.mem_append.1 hr with hr | hr
    · have h1 := (HIN.out.mo r hr).mono (T := fun b => (S b ∧ (Value.slice p1 rs.length c1).ownBlock ≠ some b) ∧ (Value.slice p4 (rs.length + 1) q5).ownBlock ≠ some b) (fun k hk s => ⟨s, by
        rcases hat' with h | h
        · rw [h]; exact s.2
        · rw [h]
          intro e
          cases e
          omega⟩)
      exact (h1.kept hk2 (fun k _ s => s.1.2)).mono (fun k _ s => ⟨s.1.1, s.2⟩)
    · obtain rfl : r = ⟨.slice q3 m.ks.length d3, .slice q4 m.ss.length d4, m⟩ := by simpa using hr
      have h1 := hmw.mo.mono (T := fun b => (S b ∧ (Value.slice p1 rs.length c1).ownBlock ≠ some b) ∧ (Value.slice p4 (rs.length + 1) q5).ownBlock ≠ some b) (fun k hk s => by
        have s' : W.heap.size ≤ k := s
        refine ⟨⟨hS k (by omega), fun e => by have := HOL.out k e; omega⟩, ?_⟩
        rcases hat' with h | h
        · rw [h]
          exact fun e => by have := HOL.out k e; omega
        · rw [h]
          intro e
          cases e
          omega)
      exact ((h1.below ((Below.refl _ w1).alloc (Nat.le_refl _) _)).kept hk3 (fun k _ s => s.1.2)).mono (fun k _ s => ⟨s.1.1, s.2⟩)
  · rcases List.mem_append.1 hr with hr | hr
    · exact HIN.out.few r hr
    · obtain rfl : r = ⟨.slice q3 m.ks.length d3, .slice q4 m.ss.length d4, m⟩ := by simpa using hr
      exact HF.out
theorem rsend_any {S T : Nat → Prop} {p : Nat} {w : World} {xs : List Ms} {r : Mr} (h : RfAt S p w xs) (hm : Mo T w r) (hf : Few r.m) (hS : ∀ k, w.heap.size ≤ k → S k) : Calls Try.prog 20 #[nv p, mv r] w (RSendTo S p xs r.m w) := by
  by_cases hn : xs.length < 16
  · exact rsend_ok h hm hf hn hS
  · exact rsend_full h (by omega)
end Go.Proofs.Ytmmneeikcnapmaa
