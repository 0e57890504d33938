/- Lists of messages; a net that was made: Len, Send, New, All. -/
import Derived.Test.YtmmneeikcnapmaaNRef
namespace Go.Proofs.Ytmmneeikcnapmaa
open Go.RowKit
attribute [local go_sem] Oper.semAt_some

/-- a slice of messages -/
def Msl (S : Nat → Prop) (W : World) (v : Value) (xs : List Ms) : Prop := ∃ rs : List Mr, rs.map Mr.m = xs ∧ Sl S W v 5 encM rs ∧ ∀ r ∈ rs, Mo S W r
section
variable {S T F : Nat → Prop} {W W' : World} {v : Value} {xs : List Ms}
theorem Msl.kept (h : Msl S W v xs) (hk : Kept F W W') (hf : ∀ k, k < W.heap.size → S k → ¬ F k) : Msl S W' v xs := by
  obtain ⟨rs, h1, h2, h3⟩ := h
  exact ⟨rs, h1, h2.kept hk hf, fun r hr => (h3 r hr).kept hk hf⟩
theorem Msl.below (h : Msl S W v xs) (hb : Below W.heap.size W W') : Msl S W' v xs := h.kept (F := fun _ => False) (kept_of_below hb) (fun _ _ _ x => x)
theorem Msl.mono (h : Msl S W v xs) (hS : ∀ k, k < W.heap.size → S k → T k) : Msl T W v xs := by
  obtain ⟨rs, h1, h2, h3⟩ := h
  exact ⟨rs, h1, h2.mono hS, fun r hr => (h3 r hr).mono hS⟩
theorem Msl.slice (h : Msl S W v xs) : ∃ p c, v = .slice p xs.length c := by
  obtain ⟨rs, rfl, h2, h3⟩ := h
  obtain ⟨p, c, e, _⟩ := h2.len
  exact ⟨p, c, by rw [e, List.length_map]⟩
/-- the cells of a message at an address -/
structure Cm (W : World) (a : Addr) (r : Mr) : Prop where
  c0 : W.cell? a = some (.int .u32 r.m.rule)
  c1 : W.cell? ⟨a.block, a.off + 1, none⟩ = some (.string r.m.route)
  c2 : W.cell? ⟨a.block, a.off + 2, none⟩ = some (.int .i64 r.m.at_)
  c3 : W.cell? ⟨a.block, a.off + 3, none⟩ = some r.kv
  c4 : W.cell? ⟨a.block, a.off + 4, none⟩ = some r.sv
theorem Cm.below {a : Addr} {r : Mr} (h : Cm W a r) (hb : Below W.heap.size W W') : Cm W' a r := ⟨cell_below h.c0 hb, cell_below h.c1 hb, cell_below h.c2 hb, cell_below h.c3 hb, cell_below h.c4 hb⟩
theorem Cm.of {a : Addr} {rs : List Mr} (h : RowAt W a 5 encM rs) {i : Nat} {r : Mr} (hr : rs[i]? = some r) : Cm W (a.add (i * 5)) r :=
  ⟨h i r hr 0 _ rfl, h i r hr 1 _ rfl, h i r hr 2 _ rfl, h i r hr 3 _ rfl, h i r hr 4 _ rfl⟩
theorem Msl.at {p : Option Addr} {n c : Nat} (h : Msl S W (.slice p n c) xs) {i : Nat} {x : Ms} (hx : xs[i]? = some x) : ∃ a r, p = some a ∧ r.m = x ∧ Mo S W r ∧ Cm W (a.add (i * 5)) r := by
  obtain ⟨rs, rfl, h2, h3⟩ := h
  rw [List.getElem?_map] at hx
  obtain ⟨r, hr, rfl⟩ := Option.map_eq_some_iff.1 hx
  obtain ⟨a, rfl, _, _, hM⟩ := h2.at hr
  exact ⟨a, r, rfl, rfl, h3 r (List.mem_of_getElem? hr), Cm.of hM hr⟩
theorem Msl.nil (S : Nat → Prop) (W : World) : Msl S W (.slice none 0 0) [] := ⟨[], rfl, Sl.nil S W, fun r hr => by cases hr⟩
/-- its slices' values are slices -/
theorem Mo.open {r : Mr} (h : Mo S W r) : ∃ p1 c1 p2 c2, r = ⟨.slice p1 r.m.ks.length c1, .slice p2 r.m.ss.length c2, r.m⟩ := by
  obtain ⟨p1, c1, e1, _⟩ := h.k.len
  obtain ⟨p2, c2, e2, _⟩ := h.s.len
  obtain ⟨kv, sv, m⟩ := r
  simp only at e1 e2
  exact ⟨p1, c1, p2, c2, by rw [e1, e2]⟩
end
set_option maxRecDepth 100000 in
set_option maxHeartbeats 1000000 in
theorem sames_any {S T : Nat → Prop} {a b : Value} {xs : List Ms} {w : World} (h1 : Msl S w a xs) (h2 : Msl T w b xs) (hf : ∀ x ∈ xs, Few x) (hn : xs.length ≤ 100000) :
    Calls Try.prog 16 #[a, b] w (Tells (.bool true) w) := by
  obtain ⟨p1, c1, rfl⟩ := h1.slice
  obtain ⟨p2, c2, rfl⟩ := h2.slice
  have H1 := Lib.hid h1
  have H2 := Lib.hid h2
  have HF := Lib.hid hf
  clear h1 h2 hf
  go_enter Try.func16, Try.ntmps16
  go_wp2_with fail
  go_loopw [5] (fun i wr => ∃ k : Nat, i = .int .i64 k ∧ k ≤ xs.length ∧ Below w.heap.size w wr) (fun i _ => xs.length - (intOf i).toNat)
  · exact ⟨0, rfl, by omega, Below.refl _ _⟩
  obtain ⟨k, rfl, hk, hB⟩ := hrel
  by_cases hlt : k < xs.length
  · obtain ⟨x, hx⟩ : ∃ x, xs[k]? = some x := ⟨_, List.getElem?_eq_getElem hlt⟩
    obtain ⟨a1, r1, rfl, e1, g1, x0, x1, x2, x3, x4⟩ := (H1.out.below hB).at hx
    obtain ⟨a2, r2, rfl, e2, g2, y0, y1, y2, y3, y4⟩ := (H2.out.below hB).at hx
    have hkk : (k : Int) < (xs.length : Int) := by omega
    have hk0 : (0 : Int) ≤ (k : Int) := by omega
    have G1 := Lib.hid g1
    have G2 := Lib.hid g2
    have HE : Hid (r2.m = r1.m) := Lib.hid (e2.trans e1.symm)
    have HX : Hid (Few r1.m) := Lib.hid (by rw [e1]; exact HF.out x (List.mem_of_getElem? hx))
    clear g1 g2 hx e1 e2
    go_wp2_with fail
    refine wp_region_ordH [0, 1, 2, 3, 4, 5, 6, 7, 8, 9] (fun w' => Below wr.heap.size wr w') (by kernel_rfl) (by kernel_rfl) ?_
    have hb0 : Below wr.heap.size wr wr.drew := (Below.refl _ wr).drew
    iterate 8 ((first | (refine ordH_free (v := ?_) rfl (by kernel_rfl) (fun _ _ _ h => h) (Or.inl ⟨rfl, fun w' hS => ?_⟩) hb0 ?_; rotate_left; (have x0 := cell_below x0 hS; have x1 := cell_below x1 hS; have x2 := cell_below x2 hS; have x3 := cell_below x3 hS; have x4 := cell_below x4 hS; have y0 := cell_below y0 hS; have y1 := cell_below y1 hS; have y2 := cell_below y2 hS; have y3 := cell_below y3 hS; have y4 := cell_below y4 hS; go_simp <;> with_reducible rfl)) | (refine ordH_free (v := undef) rfl (by kernel_rfl) (fun _ _ _ h => h) (Or.inr ⟨rfl, rfl⟩) hb0 ?_)); (simp only [Act.put, List.setIfInBounds_toArray, List.set_cons_zero, List.set_cons_succ]))
    refine ordH_sole rfl (by kernel_rfl) rfl (fun K hK => ?_)
    go_simp
    refine (same_any (G1.out.below hb0) (G2.out.below hb0) HE.out HX.out).mono ?_
    rintro e w1 ⟨rfl, hb1⟩
    replace hb1 := below_then hb0 hb1
    refine hK _ _ hb1 ?_
    clear hK K
    iterate 1 ((first | (refine ordH_free (v := ?_) rfl (by kernel_rfl) (fun _ _ _ h => h) (Or.inl ⟨rfl, fun w' hS => ?_⟩) hb1 ?_; rotate_left; (skip; go_simp <;> with_reducible rfl)) | (refine ordH_free (v := undef) rfl (by kernel_rfl) (fun _ _ _ h => h) (Or.inr ⟨rfl, rfl⟩) hb1 ?_)); (simp only [Act.put, List.setIfInBounds_toArray, List.set_cons_zero, List.set_cons_succ]))
    refine ⟨by kernel_rfl, ?_⟩
    go_wp2_with fail
    exact ⟨⟨k + 1, by simp, by omega, below_then hB hb1⟩, by simp [intOf]; omega⟩
  · obtain rfl : k = xs.length := by omega
    go_wp2_with fail
    go_ret
    exact ⟨rfl, hB⟩

/-- a net that was made -/
structure NetIn (S : Nat → Prop) (p : Nat) (W : World) (v : Value) (rs : List Mr) : Prop where
  box : Box W p #[v, .bool true] 53
  own : W.ownsRow 0 33 5 v rs.length (rs.flatMap encM)
  os : ∀ b, v.ownBlock = some b → S b
  mo : ∀ r ∈ rs, Mo (fun b => S b ∧ v.ownBlock ≠ some b) W r
  np : ¬ S p
  few : ∀ r ∈ rs, Few r.m
def NetAt (S : Nat → Prop) (p : Nat) (W : World) (xs : List Ms) : Prop := ∃ v rs, rs.map Mr.m = xs ∧ NetIn S p W v rs
section
variable {S T F : Nat → Prop} {p : Nat} {W W' : World} {xs : List Ms}
theorem NetIn.kept {v : Value} {rs : List Mr} (h : NetIn S p W v rs) (hk : Kept F W W') (hf : ∀ k, k < W.heap.size → S k → ¬ F k) (hp : ¬ F p) : NetIn S p W' v rs :=
  ⟨h.box.kept hk hp, owns_keep h.own (fun b e => hk.block b (h.own.lt b e).2 (hf b (h.own.lt b e).2 (h.os b e))), h.os, fun r hr => (h.mo r hr).kept hk (fun b hb s => hf b hb s.1), h.np, h.few⟩
theorem NetAt.kept (h : NetAt S p W xs) (hk : Kept F W W') (hf : ∀ k, k < W.heap.size → S k → ¬ F k) (hp : ¬ F p) : NetAt S p W' xs := by
  obtain ⟨v, rs, h1, h2⟩ := h
  exact ⟨v, rs, h1, h2.kept hk hf hp⟩
theorem NetAt.below (h : NetAt S p W xs) (hb : Below W.heap.size W W') : NetAt S p W' xs := h.kept (F := fun _ => False) (kept_of_below hb) (fun _ _ _ x => x) (fun x => x)
theorem NetAt.mono (h : NetAt S p W xs) (hS : ∀ k, k < W.heap.size → S k → T k) (hp : ¬ T p) : NetAt T p W xs := by
  obtain ⟨v, rs, h1, h2⟩ := h
  exact ⟨v, rs, h1, h2.box, h2.own, fun b e => hS b (h2.own.lt b e).2 (h2.os b e), fun r hr => (h2.mo r hr).mono (fun b hb s => ⟨hS b hb s.1, s.2⟩), hp, h2.few⟩
theorem NetAt.lt (h : NetAt S p W xs) : p < W.heap.size := by
  obtain ⟨v, rs, _, h2⟩ := h
  exact h2.box.lt
theorem NetAt.few (h : NetAt S p W xs) : ∀ x ∈ xs, Few x := by
  obtain ⟨v, rs, rfl, h2⟩ := h
  intro x hx
  obtain ⟨r, hr, rfl⟩ := List.mem_map.1 hx
  exact h2.few r hr
end
abbrev nv (p : Nat) : Value := .pointer (some ⟨p, 0, none⟩)
theorem len_any {S : Nat → Prop} {p : Nat} {w : World} {xs : List Ms} (h : NetAt S p w xs) : Calls Try.prog 12 #[nv p] w (Is (.int .i64 xs.length) w) := by
  obtain ⟨v, rs, rfl, h⟩ := h
  obtain ⟨c, z⟩ := h.box.rd
  obtain ⟨p1, c1, rfl⟩ := owns_slice h.own
  clear h
  rw [List.length_map]
  go_enter Try.func12, Try.ntmps12
  go_wp2
  go_ret
  exact ⟨rfl, rfl⟩
def sendE (xs : List Ms) : Int := if xs.length < 16 then 0 else 312
def sendL (xs : List Ms) (m : Ms) : List Ms := if xs.length < 16 then xs ++ [m] else xs
def SendTo (S : Nat → Prop) (p : Nat) (xs : List Ms) (m : Ms) (w : World) (e : Ending) (w' : World) : Prop := e = .returned (.int .i64 (sendE xs)) ∧ NetAt S p w' (sendL xs m) ∧ Kept (fun b => b = p ∨ S b) w w'
set_option maxRecDepth 100000 in
set_option maxHeartbeats 1000000 in
theorem send_full {S : Nat → Prop} {p : Nat} {w : World} {xs : List Ms} {r : Mr} (h : NetAt S p w xs) (hn : 16 ≤ xs.length) : Calls Try.prog 14 #[nv p, mv r] w (SendTo S p xs r.m w) := by
  have hb0 : Below w.heap.size w (w.alloc (.cells (mc r) 33)) := (Below.refl _ w).alloc (Nat.le_refl _) _
  have HE : Hid (SendTo S p xs r.m w (.returned (.int .i64 312)) (w.alloc (.cells (mc r) 33))) := Lib.hid ⟨by unfold sendE; rw [if_neg (by omega)], by unfold sendL; rw [if_neg (by omega)]; exact h.below hb0, kept_of_below hb0⟩
  obtain ⟨v, rs, rfl, hi⟩ := h.below hb0
  have hpl := hi.box.lt
  obtain ⟨c, z⟩ := hi.box.rd
  obtain ⟨p1, c1, rfl⟩ := owns_slice hi.own
  rw [List.length_map] at hn
  have hn' : (16 : Int) ≤ (rs.length : Int) := by omega
  clear h hi hb0
  go_enter Try.func14, Try.ntmps14
  go_wp2_with fail
  go_ret
  exact HE.out
set_option maxRecDepth 100000 in
set_option maxHeartbeats 1000000 in
theorem send_ok {S T : Nat → Prop} {p : Nat} {w : World} {xs : List Ms} {r : Mr} (h : NetAt S p w xs) (hm : Mo T w r) (hf : Few r.m) (hn : xs.length < 16) (hS : ∀ k, w.heap.size ≤ k → S k) : Calls Try.prog 14 #[nv p, mv r] w (SendTo S p xs r.m w) := by
  have hb0 : Below w.heap.size w (w.alloc (.cells (mc r) 33)) := (Below.refl _ w).alloc (Nat.le_refl _) _
  have HE : Hid (∀ w', NetAt S p w' (xs ++ [r.m]) → Kept (fun b => b = p ∨ S b) w w' → SendTo S p xs r.m w (.returned (.int .i64 0)) w') := Lib.hid fun w' h1 h2 => ⟨by unfold sendE; rw [if_pos hn], by unfold sendL; rw [if_pos hn]; exact h1, h2⟩
  have HM := Lib.hid (hm.below hb0)
  have HF := Lib.hid hf
  have b0 := Box.new w (mc r) 33
  have hpn := h.lt
  obtain ⟨v, rs, rfl, hw⟩ := h
  have hi : NetIn S p (w.alloc (.cells (mc r) 33)) v rs := hw.kept (F := fun _ => False) (kept_of_below hb0) (fun _ _ _ x => x) (fun x => x)
  obtain ⟨c, z⟩ := hi.box.rd
  obtain ⟨p1, c1, rfl⟩ := owns_slice hi.own
  have HOL : Hid (∀ b, (Value.slice p1 rs.length c1).ownBlock = some b → b < w.heap.size) := Lib.hid fun b e => (hw.own.lt b e).2
  rw [List.length_map] at hn
  have hn' : (rs.length : Int) < 16 := by omega
  have HIN := Lib.hid hi
  clear hw hi hm hf
  obtain ⟨q1, d1, q2, d2, hr⟩ := HM.out.open
  obtain ⟨m, hmm⟩ : ∃ m, m = r.m := ⟨_, rfl⟩
  rw [← hmm] at hr
  subst hr
  have HB0 := Lib.hid hb0
  have hpl := HIN.out.box.lt
  clear hmm hb0
  go_enter Try.func14, Try.ntmps14
  go_wp2_with fail
  clear c z
  obtain ⟨W, hW⟩ : ∃ W, (w.alloc (.cells (mc ⟨.slice q1 m.ks.length d1, .slice q2 m.ss.length d2, m⟩) 33)) = W := ⟨_, rfl⟩
  rw [hW] at HM HIN b0 HB0 hpl ⊢
  have HW := Lib.hid hW
  have hWs : w.heap.size < W.heap.size := b0.lt
  have HB := Lib.hid b0
  have HX := Lib.hid HIN.out.box
  clear hW b0
  obtain ⟨i0, hi, hi0, hi1, hi2⟩ := info_parts info_msg
  have HI := Lib.hid hi
  have HI0 := Lib.hid hi0
  have HI1 := Lib.hid hi1
  have HI2 := Lib.hid hi2
  clear hi hi0 hi1 hi2
  refine wp_region_ord [0, 1, 2, 3, 4, 5, 6, 7, 8, 9, 10, 11] (fun w' => Kept (fun b => (Value.slice p1 rs.length c1).ownBlock = some b) W w') 11 (by kernel_rfl) (by kernel_rfl) ?_
  have hb0 : Kept (fun b => (Value.slice p1 rs.length c1).ownBlock = some b) W W.drew := (Kept.refl _ W).drew
  have HNP : Hid (¬ (Value.slice p1 rs.length c1).ownBlock = some p) := Lib.hid fun e => HIN.out.np (HIN.out.os p e)
  have HNB : Hid (¬ (Value.slice p1 rs.length c1).ownBlock = some w.heap.size) := Lib.hid fun e => by have := HOL.out _ e; omega
  iterate 6 ((first | (refine wpOrd_free (v := ?_) rfl (by kernel_rfl) (fun _ _ _ h => h) (Or.inl ⟨rfl, fun w' hS => ?_⟩) hb0 ?_; rotate_left; (have c := (HX.out.kept hS HNP.out).rd.1; have c0 := (HB.out.kept hS HNB.out).rd.1; go_simp <;> with_reducible rfl)) | (refine wpOrd_free (v := undef) rfl (by kernel_rfl) (fun _ _ _ h => h) (Or.inr ⟨rfl, rfl⟩) hb0 ?_)); (simp only [Act.put, List.setIfInBounds_toArray, List.set_cons_zero, List.set_cons_succ]))
  refine wpOrd_sole rfl (by kernel_rfl) rfl (fun K hK => ?_)
  go_simp
  refine (twin_any (HM.out.below (Below.refl _ W).drew) HF.out).mono ?_
  rintro e w1 ⟨r1, rfl, hrm, hmw, hb1⟩
  obtain ⟨q3, d3, q4, d4, hr1⟩ := hmw.mo.open
  rw [hrm] at hr1
  subst hr1
  have hb1' : Below W.heap.size W w1 := below_then (Below.refl _ W).drew hb1
  refine hK _ _ (.inr (kept_of_below hb1')) ?_
  clear hK K hrm
  refine wpOrd_sole rfl (by kernel_rfl) rfl (fun K hK => ?_)
  go_simp
  have hb2 := hb1'.alloc hb1'.size (.cells #[.int .u32 m.rule, .string m.route, .int .i64 m.at_, .slice q3 m.ks.length d3, .slice q4 m.ss.length d4] 33)
  refine hK _ _ (.inr (kept_of_below hb2)) ?_
  clear hK K
  refine wpOrd_sole rfl (by kernel_rfl) rfl (fun K hK => ?_)
  refine wp_append_sl encM_len (.tmp 26) (.tmp 29) 22 (by rfl) 0 33 i0 _ 80 Try.underlying22 HI.out HI0.out HI1.out HI2.out (by rfl) (by decide) (v := .slice p1 rs.length c1) (xs := rs) (ys := [⟨.slice q3 m.ks.length d3, .slice q4 m.ss.length d4, m⟩]) (by rfl) (by rfl) (owns_keep HIN.out.own (fun b e => hb2.block b (HIN.out.own.lt b e).2)) (Sl.one (S := fun _ => True) encM_len (Box.new _ _ _) rfl trivial) (by simp [Value.oneCell']) (by simp only [List.length_cons, List.length_nil]; unfold maxLen; omega) (by simp only [List.length_cons, List.length_nil]; omega) (by omega) ?_
  intro v2 w2 hown hk3 hat
  obtain ⟨p4, q5, rfl⟩ := owns_slice hown
  have hk2 := Kept.first hb2 hk3
  refine hK _ _ (.inr hk2) ?_
  clear hK K
  simp only [Act.put, List.setIfInBounds_toArray]
  have c := (HX.out.kept hk2 HNP.out).rd.1
  have z := (HX.out.kept hk2 HNP.out).rd.2
  iterate 2 ((first | (refine wpOrd_free (v := ?_) rfl (by kernel_rfl) (fun _ _ _ h => h) (Or.inl ⟨rfl, fun w' hS => ?_⟩) hk2 ?_; rotate_left; (skip; go_simp <;> with_reducible rfl)) | (refine wpOrd_free (v := undef) rfl (by kernel_rfl) (fun _ _ _ h => h) (Or.inr ⟨rfl, rfl⟩) hk2 ?_)); (simp only [Act.put, List.setIfInBounds_toArray, List.set_cons_zero, List.set_cons_succ]))
  refine wpOrd_sole rfl (by kernel_rfl) rfl (fun K hK => ?_)
  go_simp
  refine hK _ _ (.inl rfl) ?_
  clear hK K
  refine ⟨by kernel_rfl, ?_⟩
  go_wp2
  go_ret
  have hw1 := hb1'.size
  rw [List.length_append, World.size_alloc] at hat
  have hat' : (Value.slice p4 (rs.length + 1) q5).ownBlock = (Value.slice p1 rs.length c1).ownBlock ∨ (Value.slice p4 (rs.length + 1) q5).ownBlock = some (w1.heap.size + 1) := hat
  rw [List.length_append] at hown
  have hne : ∀ b, (Value.slice p4 (rs.length + 1) q5).ownBlock = some b → S b ∧ b ≠ p := fun b e => by
    rcases hat' with h | h
    · rw [h] at e
      exact ⟨HIN.out.os b e, fun hb => HNP.out (hb ▸ e)⟩
    · rw [h] at e
      cases e
      exact ⟨hS _ (by omega), by omega⟩
  have hK1 : Kept (fun k => k = p) w2 (w2.setCell ⟨p, 0, none⟩ (.slice p4 (rs.length + 1) q5)) := (Kept.refl _ w2).setCell _ _ (by simp)
  have hSp : ∀ k, S k → ¬ k = p := fun k hk e => HIN.out.np (e ▸ hk)
  refine HE.out _ ⟨_, rs ++ [⟨.slice q3 m.ks.length d3, .slice q4 m.ss.length d4, m⟩], by rw [List.map_append]; rfl, (HX.out.kept hk2 HNP.out).set _, ?_, fun b e => (hne b e).1, fun r hr => ?_, HIN.out.np, fun r hr => ?_⟩ ((Kept.first HB0.out (hk2.mono (fun i _ e => Or.inr (HIN.out.os i e)))).setCell _ _ (fun _ => .inl rfl))
  · rw [List.length_append]
    exact owns_keep hown (fun b e => hK1.block b (hown.lt b e).2 (fun hb => (hne b e).2 hb))
  · have hfin : ∀ {r : Mr}, Mo (fun b => S b ∧ (Value.slice p4 (rs.length + 1) q5).ownBlock ≠ some b) w2 r → Mo (fun b => S b ∧ (Value.slice p4 (rs.length + 1) q5).ownBlock ≠ some b) (w2.setCell ⟨p, 0, none⟩ (.slice p4 (rs.length + 1) q5)) r := fun h => h.kept hK1 (fun k _ s => hSp k s.1)
    refine hfin ?_
    rcases List.mem_append.1 hr with hr | hr
    · have h1 := (HIN.out.mo r hr).mono (T := fun b => (S b ∧ (Value.slice p1 rs.length c1).ownBlock ≠ some b) ∧ (Value.slice p4 (rs.length + 1) q5).ownBlock ≠ some b) (fun k hk s => ⟨s, by
        rcases hat' with h | h
        · rw [h]; exact s.2
        · rw [h]
          intro e
          cases e
          omega⟩)
      exact (h1.kept hk2 (fun k _ s => s.1.2)).mono (fun k _ s => ⟨s.1.1, s.2⟩)
    · obtain rfl : r = ⟨.slice q3 m.ks.length d3, .slice q4 m.ss.length d4, m⟩ := by simpa using hr
      have h1 := hmw.mo.mono (T := fun b => (S b ∧ (Value.slice p1 rs.length c1).ownBlock ≠ some b) ∧ (Value.slice p4 (rs.length + 1) q5).ownBlock ≠ some b) (fun k hk s => by
        have s' : W.heap.size ≤ k := s
        refine ⟨⟨hS k (by omega), fun e => by have := HOL.out k e; omega⟩, ?_⟩
        rcases hat' with h | h
        · rw [h]
          exact fun e => by have := HOL.out k e; omega
        · rw [h]
          intro e
          cases e
          omega)
      exact ((h1.below ((Below.refl _ w1).alloc (Nat.le_refl _) _)).kept hk3 (fun k _ s => s.1.2)).mono (fun k _ s => ⟨s.1.1, s.2⟩)
  · rcases List.mem_append.1 hr with hr | hr
    · exact HIN.out.few r hr
    · obtain rfl : r = ⟨.slice q3 m.ks.length d3, .slice q4 m.ss.length d4, m⟩ := by simpa using hr
      exact HF.out
theorem send_any {S T : Nat → Prop} {p : Nat} {w : World} {xs : List Ms} {r : Mr} (h : NetAt S p w xs) (hm : Mo T w r) (hf : Few r.m) (hS : ∀ k, w.heap.size ≤ k → S k) : Calls Try.prog 14 #[nv p, mv r] w (SendTo S p xs r.m w) := by
  by_cases hn : xs.length < 16
  · exact send_ok h hm hf hn hS
  · exact send_full h (by omega)
end Go.Proofs.Ytmmneeikcnapmaa
