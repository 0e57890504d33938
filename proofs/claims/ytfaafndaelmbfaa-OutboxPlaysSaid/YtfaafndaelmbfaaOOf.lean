/- outbox.Of -/
import Derived.Test.YtfaafndaelmbfaaORf2
namespace Go.Proofs.Ytfaafndaelmbfaa
open Go.RowKit
attribute [local go_sem] Oper.semAt_some

def MadeTo (xs : List Ox) (w : World) (e : Ending) (w' : World) : Prop :=
  (GoodO xs ∧ ∃ p, e = .returned (.tuple #[bv p, .int .i64 0]) ∧ BxM (fun b => b < w.heap.size ∨ w'.heap.size ≤ b) p w' xs ∧ Below w.heap.size w w') ∨ (¬ GoodO xs ∧ e = .returned (.tuple #[.pointer none, .int .i64 2]) ∧ Below w.heap.size w w')
/-- a row more in the box: behind the append and the store -/
theorem bxin_snoc {S : Nat → Prop} {p : Nat} {p1 p4 : Option Addr} {c1 q5 : Nat} {rs : List Ow} {o : Ow} {w3 W5 w2 : World} (hin : BxIn S p W5 (.slice p1 rs.length c1) rs) (hS : ∀ k, w3.heap.size ≤ k → S k) (hp : p < w3.heap.size) (h35 : w3.heap.size ≤ W5.heap.size) (hmw : Mw w3.heap.size W5 o.m)
    (hl : ∀ b, (Value.slice p1 rs.length c1).ownBlock = some b → b < w3.heap.size)
    (hown : w2.ownsRow 0 36 7 (.slice p4 (rs.length + 1) q5) (rs.length + 1) ((rs ++ [o]).flatMap encO)) (hk : Kept (fun b => (Value.slice p1 rs.length c1).ownBlock = some b) W5 w2)
    (hat : (Value.slice p4 (rs.length + 1) q5).ownBlock = (Value.slice p1 rs.length c1).ownBlock ∨ ∃ b, W5.heap.size ≤ b ∧ (Value.slice p4 (rs.length + 1) q5).ownBlock = some b) :
    BxIn S p (w2.setCell ⟨p, 0, none⟩ (.slice p4 (rs.length + 1) q5)) (.slice p4 (rs.length + 1) q5) (rs ++ [o]) := by
  have hnp : ¬ (Value.slice p1 rs.length c1).ownBlock = some p := fun e => hin.np (hin.os p e)
  have hne : ∀ b, (Value.slice p4 (rs.length + 1) q5).ownBlock = some b → S b ∧ b ≠ p := fun b e => by
    rcases hat with h | ⟨b', hb', h⟩
    · rw [h] at e
      exact ⟨hin.os b e, fun hb => hnp (hb ▸ e)⟩
    · rw [h] at e
      cases e
      exact ⟨hS _ (by omega), by omega⟩
  have hK1 : Kept (fun k => k = p) w2 (w2.setCell ⟨p, 0, none⟩ (.slice p4 (rs.length + 1) q5)) := (Kept.refl _ w2).setCell _ _ (by simp)
  have hSp : ∀ k, S k → ¬ k = p := fun k hk e => hin.np (e ▸ hk)
  refine ⟨(hin.box.kept hk hnp).set _, ?_, fun b e => (hne b e).1, fun r hr => ?_, hin.np⟩
  · rw [List.length_append]
    exact owns_keep hown (fun b e => hK1.block b (hown.lt b e).2 (fun hb => (hne b e).2 hb))
  · have hfin : ∀ {r : Mr}, Mo (fun b => S b ∧ (Value.slice p4 (rs.length + 1) q5).ownBlock ≠ some b) w2 r → Mo (fun b => S b ∧ (Value.slice p4 (rs.length + 1) q5).ownBlock ≠ some b) (w2.setCell ⟨p, 0, none⟩ (.slice p4 (rs.length + 1) q5)) r := fun h => h.kept hK1 (fun k _ s => hSp k s.1)
    refine hfin ?_
    rcases List.mem_append.1 hr with hr | hr
    · have h1 := (hin.mo r hr).mono (T := fun b => (S b ∧ (Value.slice p1 rs.length c1).ownBlock ≠ some b) ∧ (Value.slice p4 (rs.length + 1) q5).ownBlock ≠ some b) (fun k hk s => ⟨s, by
        rcases hat with h | ⟨b', hb', h⟩
        · rw [h]; exact s.2
        · rw [h]
          intro e
          cases e
          omega⟩)
      exact (h1.kept hk (fun k _ s => s.1.2)).mono (fun k _ s => ⟨s.1.1, s.2⟩)
    · obtain rfl : r = o := by simpa using hr
      have h1 := hmw.mo.mono (T := fun b => (S b ∧ (Value.slice p1 rs.length c1).ownBlock ≠ some b) ∧ (Value.slice p4 (rs.length + 1) q5).ownBlock ≠ some b) (fun k hk s => by
        have s' : w3.heap.size ≤ k := s
        have h2 : (Value.slice p1 rs.length c1).ownBlock ≠ some k := fun e => by have := hl k e; omega
        refine ⟨⟨hS k s', h2⟩, ?_⟩
        rcases hat with h | ⟨b', hb', h⟩
        · rw [h]
          exact h2
        · rw [h]
          intro e
          cases e
          omega)
      exact (h1.kept hk (fun k _ s => s.1.2)).mono (fun k _ s => ⟨s.1.1, s.2⟩)
set_option maxRecDepth 100000 in
set_option maxHeartbeats 4000000 in
theorem of_any {S : Nat → Prop} {v : Value} {xs : List Ox} {w : World} (h : Osl S w v xs) (hf : FewO xs) : Calls Try.prog 17 #[v] w (MadeTo xs w) := by
  obtain ⟨p0, c0, rfl⟩ := h.slice
  have HL := Lib.hid h
  have HF := Lib.hid hf
  clear h hf
  by_cases h6 : xs.length ≤ 6
  · have h6' : ¬ (6 : Int) < (xs.length : Int) := by omega
    obtain ⟨i0, hi, hi0, hi1, hi2⟩ := info_parts info_owed
    have HI := Lib.hid hi
    have HI0 := Lib.hid hi0
    have HI1 := Lib.hid hi1
    have HI2 := Lib.hid hi2
    clear hi hi0 hi1 hi2
    go_enter Try.func17, Try.ntmps17
    go_wp2_with fail
    refine (new_any w).mono ?_
    rintro e w1 ⟨rfl, hb, hbx⟩
    have hp1 := hbx.lt
    have HB1 := Lib.hid hb
    have HX1 := Lib.hid hbx
    obtain ⟨p, hp⟩ : ∃ p, w.heap.size = p := ⟨_, rfl⟩
    have HP := Lib.hid hp
    rw [hp] at HX1 hp1 ⊢
    clear hb hbx hp
    go_wp2_with fail
    go_loopw [6, 13] (fun _ iv_ wr => ∃ k : Nat, iv_ = .int .i64 k ∧ k ≤ xs.length ∧ (∀ (j : Nat) (x : Ox), j < k → xs[j]? = some x → okO (xs.take j) x = true) ∧ BxAt (fun b => p < b) p wr (xs.take k) ∧ Below w.heap.size w wr) (fun _ iv_ _ => xs.length - (intOf iv_).toNat)
    · exact ⟨0, rfl, by omega, (fun j x h => by omega), HX1.out, HB1.out⟩
    clear HX1 HB1
    obtain ⟨k, rfl, hk, hg, hX, hB⟩ := hrel
    have HG := Lib.hid hg
    have HB := Lib.hid hB
    clear hg hB
    by_cases hlt : k < xs.length
    · obtain ⟨x, hx⟩ : ∃ x, xs[k]? = some x := ⟨_, List.getElem?_eq_getElem hlt⟩
      obtain ⟨a, ⟨⟨kv, sv, m⟩, tr, nx⟩, rfl, e, hmo, y0, y1, y2, y3, y4, y5, y6⟩ := (HL.out.below HB.out).at hx
      have hmo := hmo.mono (T := fun _ => True) (fun _ _ _ => trivial)
      obtain ⟨q1, d1, e3, -, -⟩ := hmo.k.len
      obtain ⟨q2, d2, e4, -, -⟩ := hmo.s.len
      simp only at e3 e4 y0 y1 y2 y3 y4 y5 y6
      subst e3 e4
      have HFW : Hid (Few m) := Lib.hid (by have := HF.out x (List.mem_of_getElem? hx); rw [← e] at this; exact this)
      have HTS : Hid (xs.take (k + 1) = xs.take k ++ [⟨m, tr, nx⟩]) := Lib.hid (by rw [take_snoc' hx, ← e]; rfl)
      have HOK : Hid (okO (xs.take k) x = (minB tr && minB nx && !hasR (xs.take k) m.rule m.at_)) := Lib.hid (by rw [← e]; rfl)
      have HX := Lib.hid hx
      have hkk : (k : Int) < (xs.length : Int) := by omega
      have hb0 : Below wr.heap.size wr (wr.alloc (.cells (oc ⟨⟨.slice q1 m.ks.length d1, .slice q2 m.ss.length d2, m⟩, tr, nx⟩) 36)) := (Below.refl _ wr).alloc (Nat.le_refl _) _
      have b6 := Box.new wr (oc ⟨⟨.slice q1 m.ks.length d1, .slice q2 m.ss.length d2, m⟩, tr, nx⟩) 36
      obtain ⟨vb, rs, hrs, hin0⟩ := hX.mono (T := fun b => p < b ∧ b ≠ wr.heap.size) (fun b hb s => ⟨s, by omega⟩) (fun s => by have := s.1; omega)
      clear hX
      have hin := hin0.kept (F := fun _ => False) (kept_of_below hb0) (fun _ _ _ x => x) (fun x => x)
      obtain ⟨p1, c1, rfl⟩ := owns_slice hin.own
      have hpw := hin0.box.lt
      have HOL : Hid (∀ b, (Value.slice p1 rs.length c1).ownBlock = some b → b < wr.heap.size) := Lib.hid fun b e => (hin0.own.lt b e).2
      have hosl : Osl (fun _ => True) (wr.alloc (.cells (oc ⟨⟨.slice q1 m.ks.length d1, .slice q2 m.ss.length d2, m⟩, tr, nx⟩) 36)) (.slice p1 rs.length c1) (xs.take k) := ⟨rs, hrs, (Sl.owned encO_len hin.own).mono (fun _ _ _ => trivial), fun o ho => (hin.mo o ho).mono (fun _ _ _ => trivial)⟩
      have hrl : rs.length = k := by
        have := congrArg List.length hrs
        rw [List.length_map, List.length_take] at this
        omega
      have HMO := Lib.hid (hmo.below hb0)
      have HRS := Lib.hid hrs
      have HRL := Lib.hid hrl
      have hr6 : rs.length ≤ 6 := by omega
      clear hx e hmo hin0 hrs hrl
      go_wp2_with fail
      obtain ⟨W1, hW1⟩ : ∃ W1, (wr.alloc (.cells (oc ⟨⟨.slice q1 m.ks.length d1, .slice q2 m.ss.length d2, m⟩, tr, nx⟩) 36)) = W1 := ⟨_, rfl⟩
      rw [hW1] at hb0 b6 hin hosl HMO ⊢
      have HB1 := Lib.hid (HB.out.trans (hb0.mono HB.out.size))
      have hs1 : wr.heap.size < W1.heap.size := b6.lt
      obtain ⟨t6, ht6⟩ : ∃ t6, wr.heap.size = t6 := ⟨_, rfl⟩
      have HT6 : Hid (w.heap.size ≤ t6) := Lib.hid (by have := HB.out.size; omega)
      rw [ht6] at b6 hs1 HOL hpw hin ⊢
      have H6 := Lib.hid b6
      have HIN := Lib.hid hin
      have HO := Lib.hid hosl
      clear hW1 ht6 hb0 b6 hin hosl y0 y1 y2 y3 y4 y5 y6
      refine anyH_start 24 (fun w' => Below W1.heap.size W1 w') (by kernel_rfl) rfl ?_
      have hb0 : Below W1.heap.size W1 W1.drew := (Below.refl _ W1).drew
      ((first | (refine anyH_free (i := 0) (v := ?_) rfl (by kernel_rfl) (fun _ _ _ h => h) (Or.inl ⟨rfl, fun w' hS => ?_⟩) hb0 ?_; rotate_left; (have c6 := (H6.out.below hS).rd.1; go_simp <;> with_reducible rfl)) | (refine anyH_free (i := 0) (v := undef) rfl (by kernel_rfl) (fun _ _ _ h => h) (Or.inr ⟨rfl, rfl⟩) hb0 ?_)); (simp only [Act.put, List.setIfInBounds_toArray, List.set_cons_zero, List.set_cons_succ])); ((first | (refine anyH_free (i := 1) (v := ?_) rfl (by kernel_rfl) (fun _ _ _ h => h) (Or.inl ⟨rfl, fun w' hS => ?_⟩) hb0 ?_; rotate_left; (have c6 := (H6.out.below hS).rd.1; go_simp <;> with_reducible rfl)) | (refine anyH_free (i := 1) (v := undef) rfl (by kernel_rfl) (fun _ _ _ h => h) (Or.inr ⟨rfl, rfl⟩) hb0 ?_)); (simp only [Act.put, List.setIfInBounds_toArray, List.set_cons_zero, List.set_cons_succ]))
      refine anyH_sole (i := 2) rfl (by kernel_rfl) rfl (fun K hK => ?_)
      go_simp
      refine (minute_any tr _).mono ?_
      rintro e w2 ⟨rfl, rfl⟩
      refine hK _ _ hb0 ?_
      clear hK K
      cases hm1 : minB tr with
      | false =>
        have HNG := Lib.hid (not_good HX.out (by rw [HOK.out, hm1]; rfl))
        clear hm1
        ((first | (refine anyH_free (i := 3) (v := ?_) rfl (by kernel_rfl) (fun _ _ _ h => h) (Or.inl ⟨rfl, fun w' hS => ?_⟩) hb0 ?_; rotate_left; (skip; go_simp <;> with_reducible rfl)) | (refine anyH_free (i := 3) (v := undef) rfl (by kernel_rfl) (fun _ _ _ h => h) (Or.inr ⟨rfl, rfl⟩) hb0 ?_)); (simp only [Act.put, List.setIfInBounds_toArray, List.set_cons_zero, List.set_cons_succ])); ((first | (refine anyH_free (i := 4) (v := ?_) rfl (by kernel_rfl) (fun _ _ _ h => h) (Or.inl ⟨rfl, fun w' hS => ?_⟩) hb0 ?_; rotate_left; (skip; go_simp <;> with_reducible rfl)) | (refine anyH_free (i := 4) (v := undef) rfl (by kernel_rfl) (fun _ _ _ h => h) (Or.inr ⟨rfl, rfl⟩) hb0 ?_)); (simp only [Act.put, List.setIfInBounds_toArray, List.set_cons_zero, List.set_cons_succ])); ((first | (refine anyH_free (i := 5) (v := ?_) rfl (by kernel_rfl) (fun _ _ _ h => h) (Or.inl ⟨rfl, fun w' hS => ?_⟩) hb0 ?_; rotate_left; (skip; go_simp <;> with_reducible rfl)) | (refine anyH_free (i := 5) (v := undef) rfl (by kernel_rfl) (fun _ _ _ h => h) (Or.inr ⟨rfl, rfl⟩) hb0 ?_)); (simp only [Act.put, List.setIfInBounds_toArray, List.set_cons_zero, List.set_cons_succ])); ((first | (refine anyH_free (i := 6) (v := ?_) rfl (by kernel_rfl) (fun _ _ _ h => h) (Or.inl ⟨rfl, fun w' hS => ?_⟩) hb0 ?_; rotate_left; (skip; go_simp <;> with_reducible rfl)) | (refine anyH_free (i := 6) (v := undef) rfl (by kernel_rfl) (fun _ _ _ h => h) (Or.inr ⟨rfl, rfl⟩) hb0 ?_)); (simp only [Act.put, List.setIfInBounds_toArray, List.set_cons_zero, List.set_cons_succ])); ((first | (refine anyH_free (i := 7) (v := ?_) rfl (by kernel_rfl) (fun _ _ _ h => h) (Or.inl ⟨rfl, fun w' hS => ?_⟩) hb0 ?_; rotate_left; (skip; go_simp <;> with_reducible rfl)) | (refine anyH_free (i := 7) (v := undef) rfl (by kernel_rfl) (fun _ _ _ h => h) (Or.inr ⟨rfl, rfl⟩) hb0 ?_)); (simp only [Act.put, List.setIfInBounds_toArray, List.set_cons_zero, List.set_cons_succ])); ((first | (refine anyH_free (i := 8) (v := ?_) rfl (by kernel_rfl) (fun _ _ _ h => h) (Or.inl ⟨rfl, fun w' hS => ?_⟩) hb0 ?_; rotate_left; (skip; go_simp <;> with_reducible rfl)) | (refine anyH_free (i := 8) (v := undef) rfl (by kernel_rfl) (fun _ _ _ h => h) (Or.inr ⟨rfl, rfl⟩) hb0 ?_)); (simp only [Act.put, List.setIfInBounds_toArray, List.set_cons_zero, List.set_cons_succ])); ((first | (refine anyH_free (i := 9) (v := ?_) rfl (by kernel_rfl) (fun _ _ _ h => h) (Or.inl ⟨rfl, fun w' hS => ?_⟩) hb0 ?_; rotate_left; (skip; go_simp <;> with_reducible rfl)) | (refine anyH_free (i := 9) (v := undef) rfl (by kernel_rfl) (fun _ _ _ h => h) (Or.inr ⟨rfl, rfl⟩) hb0 ?_)); (simp only [Act.put, List.setIfInBounds_toArray, List.set_cons_zero, List.set_cons_succ])); ((first | (refine anyH_free (i := 10) (v := ?_) rfl (by kernel_rfl) (fun _ _ _ h => h) (Or.inl ⟨rfl, fun w' hS => ?_⟩) hb0 ?_; rotate_left; (skip; go_simp <;> with_reducible rfl)) | (refine anyH_free (i := 10) (v := undef) rfl (by kernel_rfl) (fun _ _ _ h => h) (Or.inr ⟨rfl, rfl⟩) hb0 ?_)); (simp only [Act.put, List.setIfInBounds_toArray, List.set_cons_zero, List.set_cons_succ])); ((first | (refine anyH_free (i := 11) (v := ?_) rfl (by kernel_rfl) (fun _ _ _ h => h) (Or.inl ⟨rfl, fun w' hS => ?_⟩) hb0 ?_; rotate_left; (skip; go_simp <;> with_reducible rfl)) | (refine anyH_free (i := 11) (v := undef) rfl (by kernel_rfl) (fun _ _ _ h => h) (Or.inr ⟨rfl, rfl⟩) hb0 ?_)); (simp only [Act.put, List.setIfInBounds_toArray, List.set_cons_zero, List.set_cons_succ])); ((first | (refine anyH_free (i := 12) (v := ?_) rfl (by kernel_rfl) (fun _ _ _ h => h) (Or.inl ⟨rfl, fun w' hS => ?_⟩) hb0 ?_; rotate_left; (skip; go_simp <;> with_reducible rfl)) | (refine anyH_free (i := 12) (v := undef) rfl (by kernel_rfl) (fun _ _ _ h => h) (Or.inr ⟨rfl, rfl⟩) hb0 ?_)); (simp only [Act.put, List.setIfInBounds_toArray, List.set_cons_zero, List.set_cons_succ])); ((first | (refine anyH_free (i := 13) (v := ?_) rfl (by kernel_rfl) (fun _ _ _ h => h) (Or.inl ⟨rfl, fun w' hS => ?_⟩) hb0 ?_; rotate_left; (skip; go_simp <;> with_reducible rfl)) | (refine anyH_free (i := 13) (v := undef) rfl (by kernel_rfl) (fun _ _ _ h => h) (Or.inr ⟨rfl, rfl⟩) hb0 ?_)); (simp only [Act.put, List.setIfInBounds_toArray, List.set_cons_zero, List.set_cons_succ])); ((first | (refine anyH_free (i := 14) (v := ?_) rfl (by kernel_rfl) (fun _ _ _ h => h) (Or.inl ⟨rfl, fun w' hS => ?_⟩) hb0 ?_; rotate_left; (skip; go_simp <;> with_reducible rfl)) | (refine anyH_free (i := 14) (v := undef) rfl (by kernel_rfl) (fun _ _ _ h => h) (Or.inr ⟨rfl, rfl⟩) hb0 ?_)); (simp only [Act.put, List.setIfInBounds_toArray, List.set_cons_zero, List.set_cons_succ])); ((first | (refine anyH_free (i := 15) (v := ?_) rfl (by kernel_rfl) (fun _ _ _ h => h) (Or.inl ⟨rfl, fun w' hS => ?_⟩) hb0 ?_; rotate_left; (skip; go_simp <;> with_reducible rfl)) | (refine anyH_free (i := 15) (v := undef) rfl (by kernel_rfl) (fun _ _ _ h => h) (Or.inr ⟨rfl, rfl⟩) hb0 ?_)); (simp only [Act.put, List.setIfInBounds_toArray, List.set_cons_zero, List.set_cons_succ])); ((first | (refine anyH_free (i := 16) (v := ?_) rfl (by kernel_rfl) (fun _ _ _ h => h) (Or.inl ⟨rfl, fun w' hS => ?_⟩) hb0 ?_; rotate_left; (skip; go_simp <;> with_reducible rfl)) | (refine anyH_free (i := 16) (v := undef) rfl (by kernel_rfl) (fun _ _ _ h => h) (Or.inr ⟨rfl, rfl⟩) hb0 ?_)); (simp only [Act.put, List.setIfInBounds_toArray, List.set_cons_zero, List.set_cons_succ])); ((first | (refine anyH_free (i := 17) (v := ?_) rfl (by kernel_rfl) (fun _ _ _ h => h) (Or.inl ⟨rfl, fun w' hS => ?_⟩) hb0 ?_; rotate_left; (skip; go_simp <;> with_reducible rfl)) | (refine anyH_free (i := 17) (v := undef) rfl (by kernel_rfl) (fun _ _ _ h => h) (Or.inr ⟨rfl, rfl⟩) hb0 ?_)); (simp only [Act.put, List.setIfInBounds_toArray, List.set_cons_zero, List.set_cons_succ])); ((first | (refine anyH_free (i := 18) (v := ?_) rfl (by kernel_rfl) (fun _ _ _ h => h) (Or.inl ⟨rfl, fun w' hS => ?_⟩) hb0 ?_; rotate_left; (skip; go_simp <;> with_reducible rfl)) | (refine anyH_free (i := 18) (v := undef) rfl (by kernel_rfl) (fun _ _ _ h => h) (Or.inr ⟨rfl, rfl⟩) hb0 ?_)); (simp only [Act.put, List.setIfInBounds_toArray, List.set_cons_zero, List.set_cons_succ])); ((first | (refine anyH_free (i := 19) (v := ?_) rfl (by kernel_rfl) (fun _ _ _ h => h) (Or.inl ⟨rfl, fun w' hS => ?_⟩) hb0 ?_; rotate_left; (skip; go_simp <;> with_reducible rfl)) | (refine anyH_free (i := 19) (v := undef) rfl (by kernel_rfl) (fun _ _ _ h => h) (Or.inr ⟨rfl, rfl⟩) hb0 ?_)); (simp only [Act.put, List.setIfInBounds_toArray, List.set_cons_zero, List.set_cons_succ])); ((first | (refine anyH_free (i := 20) (v := ?_) rfl (by kernel_rfl) (fun _ _ _ h => h) (Or.inl ⟨rfl, fun w' hS => ?_⟩) hb0 ?_; rotate_left; (skip; go_simp <;> with_reducible rfl)) | (refine anyH_free (i := 20) (v := undef) rfl (by kernel_rfl) (fun _ _ _ h => h) (Or.inr ⟨rfl, rfl⟩) hb0 ?_)); (simp only [Act.put, List.setIfInBounds_toArray, List.set_cons_zero, List.set_cons_succ])); ((first | (refine anyH_free (i := 21) (v := ?_) rfl (by kernel_rfl) (fun _ _ _ h => h) (Or.inl ⟨rfl, fun w' hS => ?_⟩) hb0 ?_; rotate_left; (skip; go_simp <;> with_reducible rfl)) | (refine anyH_free (i := 21) (v := undef) rfl (by kernel_rfl) (fun _ _ _ h => h) (Or.inr ⟨rfl, rfl⟩) hb0 ?_)); (simp only [Act.put, List.setIfInBounds_toArray, List.set_cons_zero, List.set_cons_succ])); ((first | (refine anyH_free (i := 22) (v := ?_) rfl (by kernel_rfl) (fun _ _ _ h => h) (Or.inl ⟨rfl, fun w' hS => ?_⟩) hb0 ?_; rotate_left; (skip; go_simp <;> with_reducible rfl)) | (refine anyH_free (i := 22) (v := undef) rfl (by kernel_rfl) (fun _ _ _ h => h) (Or.inr ⟨rfl, rfl⟩) hb0 ?_)); (simp only [Act.put, List.setIfInBounds_toArray, List.set_cons_zero, List.set_cons_succ])); ((first | (refine anyH_free (i := 23) (v := ?_) rfl (by kernel_rfl) (fun _ _ _ h => h) (Or.inl ⟨rfl, fun w' hS => ?_⟩) hb0 ?_; rotate_left; (skip; go_simp <;> with_reducible rfl)) | (refine anyH_free (i := 23) (v := undef) rfl (by kernel_rfl) (fun _ _ _ h => h) (Or.inr ⟨rfl, rfl⟩) hb0 ?_)); (simp only [Act.put, List.setIfInBounds_toArray, List.set_cons_zero, List.set_cons_succ]))
        refine anyH_done (by kernel_rfl) ?_
        have HB2 := Lib.hid HB1.out.drew
        clear hb0
        go_wp2_with fail
        go_ret2
        exact .inr ⟨HNG.out, rfl, HB2.out⟩
      | true =>
        have HM1 := Lib.hid hm1
        clear hm1
        ((first | (refine anyH_free (i := 3) (v := ?_) rfl (by kernel_rfl) (fun _ _ _ h => h) (Or.inl ⟨rfl, fun w' hS => ?_⟩) hb0 ?_; rotate_left; (have c6 := (H6.out.below hS).rd.1; go_simp <;> with_reducible rfl)) | (refine anyH_free (i := 3) (v := undef) rfl (by kernel_rfl) (fun _ _ _ h => h) (Or.inr ⟨rfl, rfl⟩) hb0 ?_)); (simp only [Act.put, List.setIfInBounds_toArray, List.set_cons_zero, List.set_cons_succ])); ((first | (refine anyH_free (i := 4) (v := ?_) rfl (by kernel_rfl) (fun _ _ _ h => h) (Or.inl ⟨rfl, fun w' hS => ?_⟩) hb0 ?_; rotate_left; (have c6 := (H6.out.below hS).rd.1; go_simp <;> with_reducible rfl)) | (refine anyH_free (i := 4) (v := undef) rfl (by kernel_rfl) (fun _ _ _ h => h) (Or.inr ⟨rfl, rfl⟩) hb0 ?_)); (simp only [Act.put, List.setIfInBounds_toArray, List.set_cons_zero, List.set_cons_succ])); ((first | (refine anyH_free (i := 5) (v := ?_) rfl (by kernel_rfl) (fun _ _ _ h => h) (Or.inl ⟨rfl, fun w' hS => ?_⟩) hb0 ?_; rotate_left; (have c6 := (H6.out.below hS).rd.1; go_simp <;> with_reducible rfl)) | (refine anyH_free (i := 5) (v := undef) rfl (by kernel_rfl) (fun _ _ _ h => h) (Or.inr ⟨rfl, rfl⟩) hb0 ?_)); (simp only [Act.put, List.setIfInBounds_toArray, List.set_cons_zero, List.set_cons_succ])); ((first | (refine anyH_free (i := 6) (v := ?_) rfl (by kernel_rfl) (fun _ _ _ h => h) (Or.inl ⟨rfl, fun w' hS => ?_⟩) hb0 ?_; rotate_left; (have c6 := (H6.out.below hS).rd.1; go_simp <;> with_reducible rfl)) | (refine anyH_free (i := 6) (v := undef) rfl (by kernel_rfl) (fun _ _ _ h => h) (Or.inr ⟨rfl, rfl⟩) hb0 ?_)); (simp only [Act.put, List.setIfInBounds_toArray, List.set_cons_zero, List.set_cons_succ]))
        refine anyH_sole (i := 7) rfl (by kernel_rfl) rfl (fun K hK => ?_)
        go_simp
        refine (minute_any nx _).mono ?_
        rintro e w2 ⟨rfl, rfl⟩
        refine hK _ _ hb0 ?_
        clear hK K
        cases hm2 : minB nx with
        | false =>
          have HNG := Lib.hid (not_good HX.out (by rw [HOK.out, HM1.out, hm2]; rfl))
          clear hm2
          ((first | (refine anyH_free (i := 8) (v := ?_) rfl (by kernel_rfl) (fun _ _ _ h => h) (Or.inl ⟨rfl, fun w' hS => ?_⟩) hb0 ?_; rotate_left; (skip; go_simp <;> with_reducible rfl)) | (refine anyH_free (i := 8) (v := undef) rfl (by kernel_rfl) (fun _ _ _ h => h) (Or.inr ⟨rfl, rfl⟩) hb0 ?_)); (simp only [Act.put, List.setIfInBounds_toArray, List.set_cons_zero, List.set_cons_succ])); ((first | (refine anyH_free (i := 9) (v := ?_) rfl (by kernel_rfl) (fun _ _ _ h => h) (Or.inl ⟨rfl, fun w' hS => ?_⟩) hb0 ?_; rotate_left; (skip; go_simp <;> with_reducible rfl)) | (refine anyH_free (i := 9) (v := undef) rfl (by kernel_rfl) (fun _ _ _ h => h) (Or.inr ⟨rfl, rfl⟩) hb0 ?_)); (simp only [Act.put, List.setIfInBounds_toArray, List.set_cons_zero, List.set_cons_succ])); ((first | (refine anyH_free (i := 10) (v := ?_) rfl (by kernel_rfl) (fun _ _ _ h => h) (Or.inl ⟨rfl, fun w' hS => ?_⟩) hb0 ?_; rotate_left; (skip; go_simp <;> with_reducible rfl)) | (refine anyH_free (i := 10) (v := undef) rfl (by kernel_rfl) (fun _ _ _ h => h) (Or.inr ⟨rfl, rfl⟩) hb0 ?_)); (simp only [Act.put, List.setIfInBounds_toArray, List.set_cons_zero, List.set_cons_succ])); ((first | (refine anyH_free (i := 11) (v := ?_) rfl (by kernel_rfl) (fun _ _ _ h => h) (Or.inl ⟨rfl, fun w' hS => ?_⟩) hb0 ?_; rotate_left; (skip; go_simp <;> with_reducible rfl)) | (refine anyH_free (i := 11) (v := undef) rfl (by kernel_rfl) (fun _ _ _ h => h) (Or.inr ⟨rfl, rfl⟩) hb0 ?_)); (simp only [Act.put, List.setIfInBounds_toArray, List.set_cons_zero, List.set_cons_succ])); ((first | (refine anyH_free (i := 12) (v := ?_) rfl (by kernel_rfl) (fun _ _ _ h => h) (Or.inl ⟨rfl, fun w' hS => ?_⟩) hb0 ?_; rotate_left; (skip; go_simp <;> with_reducible rfl)) | (refine anyH_free (i := 12) (v := undef) rfl (by kernel_rfl) (fun _ _ _ h => h) (Or.inr ⟨rfl, rfl⟩) hb0 ?_)); (simp only [Act.put, List.setIfInBounds_toArray, List.set_cons_zero, List.set_cons_succ])); ((first | (refine anyH_free (i := 13) (v := ?_) rfl (by kernel_rfl) (fun _ _ _ h => h) (Or.inl ⟨rfl, fun w' hS => ?_⟩) hb0 ?_; rotate_left; (skip; go_simp <;> with_reducible rfl)) | (refine anyH_free (i := 13) (v := undef) rfl (by kernel_rfl) (fun _ _ _ h => h) (Or.inr ⟨rfl, rfl⟩) hb0 ?_)); (simp only [Act.put, List.setIfInBounds_toArray, List.set_cons_zero, List.set_cons_succ])); ((first | (refine anyH_free (i := 14) (v := ?_) rfl (by kernel_rfl) (fun _ _ _ h => h) (Or.inl ⟨rfl, fun w' hS => ?_⟩) hb0 ?_; rotate_left; (skip; go_simp <;> with_reducible rfl)) | (refine anyH_free (i := 14) (v := undef) rfl (by kernel_rfl) (fun _ _ _ h => h) (Or.inr ⟨rfl, rfl⟩) hb0 ?_)); (simp only [Act.put, List.setIfInBounds_toArray, List.set_cons_zero, List.set_cons_succ])); ((first | (refine anyH_free (i := 15) (v := ?_) rfl (by kernel_rfl) (fun _ _ _ h => h) (Or.inl ⟨rfl, fun w' hS => ?_⟩) hb0 ?_; rotate_left; (skip; go_simp <;> with_reducible rfl)) | (refine anyH_free (i := 15) (v := undef) rfl (by kernel_rfl) (fun _ _ _ h => h) (Or.inr ⟨rfl, rfl⟩) hb0 ?_)); (simp only [Act.put, List.setIfInBounds_toArray, List.set_cons_zero, List.set_cons_succ])); ((first | (refine anyH_free (i := 16) (v := ?_) rfl (by kernel_rfl) (fun _ _ _ h => h) (Or.inl ⟨rfl, fun w' hS => ?_⟩) hb0 ?_; rotate_left; (skip; go_simp <;> with_reducible rfl)) | (refine anyH_free (i := 16) (v := undef) rfl (by kernel_rfl) (fun _ _ _ h => h) (Or.inr ⟨rfl, rfl⟩) hb0 ?_)); (simp only [Act.put, List.setIfInBounds_toArray, List.set_cons_zero, List.set_cons_succ])); ((first | (refine anyH_free (i := 17) (v := ?_) rfl (by kernel_rfl) (fun _ _ _ h => h) (Or.inl ⟨rfl, fun w' hS => ?_⟩) hb0 ?_; rotate_left; (skip; go_simp <;> with_reducible rfl)) | (refine anyH_free (i := 17) (v := undef) rfl (by kernel_rfl) (fun _ _ _ h => h) (Or.inr ⟨rfl, rfl⟩) hb0 ?_)); (simp only [Act.put, List.setIfInBounds_toArray, List.set_cons_zero, List.set_cons_succ])); ((first | (refine anyH_free (i := 18) (v := ?_) rfl (by kernel_rfl) (fun _ _ _ h => h) (Or.inl ⟨rfl, fun w' hS => ?_⟩) hb0 ?_; rotate_left; (skip; go_simp <;> with_reducible rfl)) | (refine anyH_free (i := 18) (v := undef) rfl (by kernel_rfl) (fun _ _ _ h => h) (Or.inr ⟨rfl, rfl⟩) hb0 ?_)); (simp only [Act.put, List.setIfInBounds_toArray, List.set_cons_zero, List.set_cons_succ])); ((first | (refine anyH_free (i := 19) (v := ?_) rfl (by kernel_rfl) (fun _ _ _ h => h) (Or.inl ⟨rfl, fun w' hS => ?_⟩) hb0 ?_; rotate_left; (skip; go_simp <;> with_reducible rfl)) | (refine anyH_free (i := 19) (v := undef) rfl (by kernel_rfl) (fun _ _ _ h => h) (Or.inr ⟨rfl, rfl⟩) hb0 ?_)); (simp only [Act.put, List.setIfInBounds_toArray, List.set_cons_zero, List.set_cons_succ])); ((first | (refine anyH_free (i := 20) (v := ?_) rfl (by kernel_rfl) (fun _ _ _ h => h) (Or.inl ⟨rfl, fun w' hS => ?_⟩) hb0 ?_; rotate_left; (skip; go_simp <;> with_reducible rfl)) | (refine anyH_free (i := 20) (v := undef) rfl (by kernel_rfl) (fun _ _ _ h => h) (Or.inr ⟨rfl, rfl⟩) hb0 ?_)); (simp only [Act.put, List.setIfInBounds_toArray, List.set_cons_zero, List.set_cons_succ])); ((first | (refine anyH_free (i := 21) (v := ?_) rfl (by kernel_rfl) (fun _ _ _ h => h) (Or.inl ⟨rfl, fun w' hS => ?_⟩) hb0 ?_; rotate_left; (skip; go_simp <;> with_reducible rfl)) | (refine anyH_free (i := 21) (v := undef) rfl (by kernel_rfl) (fun _ _ _ h => h) (Or.inr ⟨rfl, rfl⟩) hb0 ?_)); (simp only [Act.put, List.setIfInBounds_toArray, List.set_cons_zero, List.set_cons_succ])); ((first | (refine anyH_free (i := 22) (v := ?_) rfl (by kernel_rfl) (fun _ _ _ h => h) (Or.inl ⟨rfl, fun w' hS => ?_⟩) hb0 ?_; rotate_left; (skip; go_simp <;> with_reducible rfl)) | (refine anyH_free (i := 22) (v := undef) rfl (by kernel_rfl) (fun _ _ _ h => h) (Or.inr ⟨rfl, rfl⟩) hb0 ?_)); (simp only [Act.put, List.setIfInBounds_toArray, List.set_cons_zero, List.set_cons_succ])); ((first | (refine anyH_free (i := 23) (v := ?_) rfl (by kernel_rfl) (fun _ _ _ h => h) (Or.inl ⟨rfl, fun w' hS => ?_⟩) hb0 ?_; rotate_left; (skip; go_simp <;> with_reducible rfl)) | (refine anyH_free (i := 23) (v := undef) rfl (by kernel_rfl) (fun _ _ _ h => h) (Or.inr ⟨rfl, rfl⟩) hb0 ?_)); (simp only [Act.put, List.setIfInBounds_toArray, List.set_cons_zero, List.set_cons_succ]))
          refine anyH_done (by kernel_rfl) ?_
          have HB2 := Lib.hid HB1.out.drew
          clear hb0
          go_wp2_with fail
          go_ret2
          exact .inr ⟨HNG.out, rfl, HB2.out⟩
        | true =>
          have HM2 := Lib.hid hm2
          clear hm2
          ((first | (refine anyH_free (i := 8) (v := ?_) rfl (by kernel_rfl) (fun _ _ _ h => h) (Or.inl ⟨rfl, fun w' hS => ?_⟩) hb0 ?_; rotate_left; ((have c6 := (H6.out.below hS).rd.1; have c := (HIN.out.box.below hS).rd.1); go_simp <;> with_reducible rfl)) | (refine anyH_free (i := 8) (v := undef) rfl (by kernel_rfl) (fun _ _ _ h => h) (Or.inr ⟨rfl, rfl⟩) hb0 ?_)); (simp only [Act.put, List.setIfInBounds_toArray, List.set_cons_zero, List.set_cons_succ])); ((first | (refine anyH_free (i := 9) (v := ?_) rfl (by kernel_rfl) (fun _ _ _ h => h) (Or.inl ⟨rfl, fun w' hS => ?_⟩) hb0 ?_; rotate_left; ((have c6 := (H6.out.below hS).rd.1; have c := (HIN.out.box.below hS).rd.1); go_simp <;> with_reducible rfl)) | (refine anyH_free (i := 9) (v := undef) rfl (by kernel_rfl) (fun _ _ _ h => h) (Or.inr ⟨rfl, rfl⟩) hb0 ?_)); (simp only [Act.put, List.setIfInBounds_toArray, List.set_cons_zero, List.set_cons_succ])); ((first | (refine anyH_free (i := 10) (v := ?_) rfl (by kernel_rfl) (fun _ _ _ h => h) (Or.inl ⟨rfl, fun w' hS => ?_⟩) hb0 ?_; rotate_left; ((have c6 := (H6.out.below hS).rd.1; have c := (HIN.out.box.below hS).rd.1); go_simp <;> with_reducible rfl)) | (refine anyH_free (i := 10) (v := undef) rfl (by kernel_rfl) (fun _ _ _ h => h) (Or.inr ⟨rfl, rfl⟩) hb0 ?_)); (simp only [Act.put, List.setIfInBounds_toArray, List.set_cons_zero, List.set_cons_succ])); ((first | (refine anyH_free (i := 11) (v := ?_) rfl (by kernel_rfl) (fun _ _ _ h => h) (Or.inl ⟨rfl, fun w' hS => ?_⟩) hb0 ?_; rotate_left; ((have c6 := (H6.out.below hS).rd.1; have c := (HIN.out.box.below hS).rd.1); go_simp <;> with_reducible rfl)) | (refine anyH_free (i := 11) (v := undef) rfl (by kernel_rfl) (fun _ _ _ h => h) (Or.inr ⟨rfl, rfl⟩) hb0 ?_)); (simp only [Act.put, List.setIfInBounds_toArray, List.set_cons_zero, List.set_cons_succ])); ((first | (refine anyH_free (i := 12) (v := ?_) rfl (by kernel_rfl) (fun _ _ _ h => h) (Or.inl ⟨rfl, fun w' hS => ?_⟩) hb0 ?_; rotate_left; ((have c6 := (H6.out.below hS).rd.1; have c := (HIN.out.box.below hS).rd.1); go_simp <;> with_reducible rfl)) | (refine anyH_free (i := 12) (v := undef) rfl (by kernel_rfl) (fun _ _ _ h => h) (Or.inr ⟨rfl, rfl⟩) hb0 ?_)); (simp only [Act.put, List.setIfInBounds_toArray, List.set_cons_zero, List.set_cons_succ])); ((first | (refine anyH_free (i := 13) (v := ?_) rfl (by kernel_rfl) (fun _ _ _ h => h) (Or.inl ⟨rfl, fun w' hS => ?_⟩) hb0 ?_; rotate_left; ((have c6 := (H6.out.below hS).rd.1; have c := (HIN.out.box.below hS).rd.1); go_simp <;> with_reducible rfl)) | (refine anyH_free (i := 13) (v := undef) rfl (by kernel_rfl) (fun _ _ _ h => h) (Or.inr ⟨rfl, rfl⟩) hb0 ?_)); (simp only [Act.put, List.setIfInBounds_toArray, List.set_cons_zero, List.set_cons_succ])); ((first | (refine anyH_free (i := 14) (v := ?_) rfl (by kernel_rfl) (fun _ _ _ h => h) (Or.inl ⟨rfl, fun w' hS => ?_⟩) hb0 ?_; rotate_left; ((have c6 := (H6.out.below hS).rd.1; have c := (HIN.out.box.below hS).rd.1); go_simp <;> with_reducible rfl)) | (refine anyH_free (i := 14) (v := undef) rfl (by kernel_rfl) (fun _ _ _ h => h) (Or.inr ⟨rfl, rfl⟩) hb0 ?_)); (simp only [Act.put, List.setIfInBounds_toArray, List.set_cons_zero, List.set_cons_succ])); ((first | (refine anyH_free (i := 15) (v := ?_) rfl (by kernel_rfl) (fun _ _ _ h => h) (Or.inl ⟨rfl, fun w' hS => ?_⟩) hb0 ?_; rotate_left; ((have c6 := (H6.out.below hS).rd.1; have c := (HIN.out.box.below hS).rd.1); go_simp <;> with_reducible rfl)) | (refine anyH_free (i := 15) (v := undef) rfl (by kernel_rfl) (fun _ _ _ h => h) (Or.inr ⟨rfl, rfl⟩) hb0 ?_)); (simp only [Act.put, List.setIfInBounds_toArray, List.set_cons_zero, List.set_cons_succ])); ((first | (refine anyH_free (i := 16) (v := ?_) rfl (by kernel_rfl) (fun _ _ _ h => h) (Or.inl ⟨rfl, fun w' hS => ?_⟩) hb0 ?_; rotate_left; ((have c6 := (H6.out.below hS).rd.1; have c := (HIN.out.box.below hS).rd.1); go_simp <;> with_reducible rfl)) | (refine anyH_free (i := 16) (v := undef) rfl (by kernel_rfl) (fun _ _ _ h => h) (Or.inr ⟨rfl, rfl⟩) hb0 ?_)); (simp only [Act.put, List.setIfInBounds_toArray, List.set_cons_zero, List.set_cons_succ])); ((first | (refine anyH_free (i := 17) (v := ?_) rfl (by kernel_rfl) (fun _ _ _ h => h) (Or.inl ⟨rfl, fun w' hS => ?_⟩) hb0 ?_; rotate_left; ((have c6 := (H6.out.below hS).rd.1; have c := (HIN.out.box.below hS).rd.1); go_simp <;> with_reducible rfl)) | (refine anyH_free (i := 17) (v := undef) rfl (by kernel_rfl) (fun _ _ _ h => h) (Or.inr ⟨rfl, rfl⟩) hb0 ?_)); (simp only [Act.put, List.setIfInBounds_toArray, List.set_cons_zero, List.set_cons_succ])); ((first | (refine anyH_free (i := 18) (v := ?_) rfl (by kernel_rfl) (fun _ _ _ h => h) (Or.inl ⟨rfl, fun w' hS => ?_⟩) hb0 ?_; rotate_left; ((have c6 := (H6.out.below hS).rd.1; have c := (HIN.out.box.below hS).rd.1); go_simp <;> with_reducible rfl)) | (refine anyH_free (i := 18) (v := undef) rfl (by kernel_rfl) (fun _ _ _ h => h) (Or.inr ⟨rfl, rfl⟩) hb0 ?_)); (simp only [Act.put, List.setIfInBounds_toArray, List.set_cons_zero, List.set_cons_succ])); ((first | (refine anyH_free (i := 19) (v := ?_) rfl (by kernel_rfl) (fun _ _ _ h => h) (Or.inl ⟨rfl, fun w' hS => ?_⟩) hb0 ?_; rotate_left; ((have c6 := (H6.out.below hS).rd.1; have c := (HIN.out.box.below hS).rd.1); go_simp <;> with_reducible rfl)) | (refine anyH_free (i := 19) (v := undef) rfl (by kernel_rfl) (fun _ _ _ h => h) (Or.inr ⟨rfl, rfl⟩) hb0 ?_)); (simp only [Act.put, List.setIfInBounds_toArray, List.set_cons_zero, List.set_cons_succ])); ((first | (refine anyH_free (i := 20) (v := ?_) rfl (by kernel_rfl) (fun _ _ _ h => h) (Or.inl ⟨rfl, fun w' hS => ?_⟩) hb0 ?_; rotate_left; ((have c6 := (H6.out.below hS).rd.1; have c := (HIN.out.box.below hS).rd.1); go_simp <;> with_reducible rfl)) | (refine anyH_free (i := 20) (v := undef) rfl (by kernel_rfl) (fun _ _ _ h => h) (Or.inr ⟨rfl, rfl⟩) hb0 ?_)); (simp only [Act.put, List.setIfInBounds_toArray, List.set_cons_zero, List.set_cons_succ]))
          refine anyH_sole (i := 21) rfl (by kernel_rfl) rfl (fun K hK => ?_)
          go_simp
          refine (place_any (r := m.rule) (i := m.at_) (HO.out.below hb0) (by rw [List.length_take]; omega)).mono ?_
          rintro e w3 ⟨z, rfl, hz, hb⟩
          have hb3 := hb0.trans (hb.mono hb0.size)
          refine hK _ _ hb3 ?_
          clear hK K hb
          rcases found_has hz with ⟨hz0, hhas⟩ | ⟨rfl, hhas⟩
          · have HNG := Lib.hid (not_good HX.out (by rw [HOK.out, HM1.out, HM2.out, show hasR (xs.take k) m.rule m.at_ = true from hhas]; rfl))
            ((first | (refine anyH_free (i := 22) (v := ?_) rfl (by kernel_rfl) (fun _ _ _ h => h) (Or.inl ⟨rfl, fun w' hS => ?_⟩) hb3 ?_; rotate_left; (skip; go_simp <;> with_reducible rfl)) | (refine anyH_free (i := 22) (v := undef) rfl (by kernel_rfl) (fun _ _ _ h => h) (Or.inr ⟨rfl, rfl⟩) hb3 ?_)); (simp only [Act.put, List.setIfInBounds_toArray, List.set_cons_zero, List.set_cons_succ])); ((first | (refine anyH_free (i := 23) (v := ?_) rfl (by kernel_rfl) (fun _ _ _ h => h) (Or.inl ⟨rfl, fun w' hS => ?_⟩) hb3 ?_; rotate_left; (skip; go_simp <;> with_reducible rfl)) | (refine anyH_free (i := 23) (v := undef) rfl (by kernel_rfl) (fun _ _ _ h => h) (Or.inr ⟨rfl, rfl⟩) hb3 ?_)); (simp only [Act.put, List.setIfInBounds_toArray, List.set_cons_zero, List.set_cons_succ]))
            refine anyH_done (by kernel_rfl) ?_
            have HB2 := Lib.hid (HB1.out.trans (hb3.mono HB1.out.size))
            clear hb0 hb3 hz hhas
            go_wp2_with fail
            go_ret2
            exact .inr ⟨HNG.out, rfl, HB2.out⟩
          · have HGK : Hid (okO (xs.take k) x = true) := Lib.hid (by rw [HOK.out, HM1.out, HM2.out, show hasR (xs.take k) m.rule m.at_ = false from hhas]; rfl)
            ((first | (refine anyH_free (i := 22) (v := ?_) rfl (by kernel_rfl) (fun _ _ _ h => h) (Or.inl ⟨rfl, fun w' hS => ?_⟩) hb3 ?_; rotate_left; (skip; go_simp <;> with_reducible rfl)) | (refine anyH_free (i := 22) (v := undef) rfl (by kernel_rfl) (fun _ _ _ h => h) (Or.inr ⟨rfl, rfl⟩) hb3 ?_)); (simp only [Act.put, List.setIfInBounds_toArray, List.set_cons_zero, List.set_cons_succ])); ((first | (refine anyH_free (i := 23) (v := ?_) rfl (by kernel_rfl) (fun _ _ _ h => h) (Or.inl ⟨rfl, fun w' hS => ?_⟩) hb3 ?_; rotate_left; (skip; go_simp <;> with_reducible rfl)) | (refine anyH_free (i := 23) (v := undef) rfl (by kernel_rfl) (fun _ _ _ h => h) (Or.inr ⟨rfl, rfl⟩) hb3 ?_)); (simp only [Act.put, List.setIfInBounds_toArray, List.set_cons_zero, List.set_cons_succ]))
            refine anyH_done (by kernel_rfl) ?_
            have HB3 := Lib.hid (HB1.out.trans (hb3.mono HB1.out.size))
            have HIN3 := Lib.hid (HIN.out.kept (F := fun _ => False) (kept_of_below hb3) (fun _ _ _ x => x) (fun x => x))
            have H63 := Lib.hid (H6.out.below hb3)
            have HM3 := Lib.hid (HMO.out.below hb3)
            have hs3 := hb3.size
            have c6 := H63.out.rd.1
            have HTW := Lib.hid (twin_any (x := ⟨.slice q1 m.ks.length d1, .slice q2 m.ss.length d2, m⟩) HM3.out HFW.out)
            clear hb0 hb3 hz hhas HIN H6 HO HMO HB1
            go_wp2_with fail
            refine HTW.out.mono ?_
            rintro e w4 ⟨⟨kv, sv, m3⟩, rfl, hrm, hmw, hb1⟩
            obtain rfl : m3 = m := hrm
            obtain ⟨q3, d3, e3⟩ := owns_slice hmw.k
            obtain ⟨q4, d4, e4⟩ := owns_slice hmw.s
            simp only at e3 e4
            subst e3 e4
            have h64 := H63.out.below hb1
            have HIN4 := Lib.hid (HIN3.out.kept (F := fun _ => False) (kept_of_below hb1) (fun _ _ _ x => x) (fun x => x))
            have HMW := Lib.hid hmw
            have HB4 := Lib.hid (HB3.out.trans (hb1.mono HB3.out.size))
            have hs4 := hb1.size
            have H64 := Lib.hid h64
            obtain ⟨c6, z6⟩ := h64.rd
            clear h64 hmw hb1 HTW H63 HM3 HIN3 HB3
            go_wp2_with fail
            have hkc : Kept (fun b => b = t6) w4 (((((w4.setCell ⟨t6, 0, none⟩ (.int .u32 m3.rule)).setCell ⟨t6, 1, none⟩ (.string m3.route)).setCell ⟨t6, 2, none⟩ (.int .i64 m3.at_)).setCell ⟨t6, 3, none⟩ (.slice q3 m3.ks.length d3)).setCell ⟨t6, 4, none⟩ (.slice q4 m3.ss.length d4)) := (((((Kept.refl (fun b => b = t6) w4).setCell ⟨t6, 0, none⟩ (.int .u32 m3.rule) (fun _ => rfl)).setCell ⟨t6, 1, none⟩ (.string m3.route) (fun _ => rfl)).setCell ⟨t6, 2, none⟩ (.int .i64 m3.at_) (fun _ => rfl)).setCell ⟨t6, 3, none⟩ (.slice q3 m3.ks.length d3) (fun _ => rfl)).setCell ⟨t6, 4, none⟩ (.slice q4 m3.ss.length d4) (fun _ => rfl)
            have h65 : Box (((((w4.setCell ⟨t6, 0, none⟩ (.int .u32 m3.rule)).setCell ⟨t6, 1, none⟩ (.string m3.route)).setCell ⟨t6, 2, none⟩ (.int .i64 m3.at_)).setCell ⟨t6, 3, none⟩ (.slice q3 m3.ks.length d3)).setCell ⟨t6, 4, none⟩ (.slice q4 m3.ss.length d4)) t6 (oc ⟨⟨.slice q3 m3.ks.length d3, .slice q4 m3.ss.length d4, m3⟩, tr, nx⟩) 36 := ((((H64.out.set (i := 0) (.int .u32 m3.rule)).set (i := 1) (.string m3.route)).set (i := 2) (.int .i64 m3.at_)).set (i := 3) (.slice q3 m3.ks.length d3)).set (i := 4) (.slice q4 m3.ss.length d4)
            obtain ⟨W5, hW5⟩ : ∃ W5, (((((w4.setCell ⟨t6, 0, none⟩ (.int .u32 m3.rule)).setCell ⟨t6, 1, none⟩ (.string m3.route)).setCell ⟨t6, 2, none⟩ (.int .i64 m3.at_)).setCell ⟨t6, 3, none⟩ (.slice q3 m3.ks.length d3)).setCell ⟨t6, 4, none⟩ (.slice q4 m3.ss.length d4)) = W5 := ⟨_, rfl⟩
            have hs5 : W5.heap.size = w4.heap.size := by rw [← hW5]; simp
            rw [hW5] at hkc h65 ⊢
            have HS5 := Lib.hid hs5
            clear hW5 c6 z6 hs5
            have HNB : Hid (¬ (Value.slice p1 rs.length c1).ownBlock = some t6) := Lib.hid fun e => by have := HOL.out _ e; omega
            have hin5 := HIN4.out.kept hkc (fun b _ s => s.2) (by omega)
            have HIN := Lib.hid hin5
            have hmw5 : Mw w3.heap.size W5 ⟨.slice q3 m3.ks.length d3, .slice q4 m3.ss.length d4, m3⟩ := HMW.out.kept hkc (fun b hb e => by omega)
            have HMW5 := Lib.hid hmw5
            have H65 := Lib.hid h65
            have HB5 := Lib.hid (HB4.out.trans (hkc.below (fun b e => by have := HT6.out; omega) HB4.out.size))
            have HNP : Hid (¬ (Value.slice p1 rs.length c1).ownBlock = some p) := Lib.hid fun e => by have := (HIN.out.os p e).1; omega
            clear hkc h65 hin5 hmw5 HIN4 H64 HMW HB4
            refine wp_region_ord [0, 1, 2, 3, 4, 5, 6, 7, 8, 9, 10] (fun w' => Kept (fun b => (Value.slice p1 rs.length c1).ownBlock = some b) W5 w') 10 (by kernel_rfl) (by kernel_rfl) ?_
            have hb0 : Kept (fun b => (Value.slice p1 rs.length c1).ownBlock = some b) W5 W5.drew := (Kept.refl _ W5).drew
            have hb06 : Below W5.heap.size W5 W5.drew := (Below.refl _ W5).drew
            have hs6 : W5.drew.heap.size = W5.heap.size := rfl
            obtain ⟨W6, hW6⟩ : ∃ W6, W5.drew = W6 := ⟨_, rfl⟩
            rw [hW6] at hb0 hb06 hs6 ⊢
            have HS6 := Lib.hid hs6
            clear hW6 hs6
            iterate 6 ((first | (refine wpOrd_free (v := ?_) rfl (by kernel_rfl) (fun _ _ _ h => h) (Or.inl ⟨rfl, fun w' hS => ?_⟩) hb0 ?_; rotate_left; (have c := (HIN.out.box.kept hS HNP.out).rd.1; have c6 := (H65.out.kept hS HNB.out).rd.1; go_simp <;> with_reducible rfl)) | (refine wpOrd_free (v := undef) rfl (by kernel_rfl) (fun _ _ _ h => h) (Or.inr ⟨rfl, rfl⟩) hb0 ?_)); (simp only [Act.put, List.setIfInBounds_toArray, List.set_cons_zero, List.set_cons_succ]))
            refine wpOrd_sole rfl (by kernel_rfl) rfl (fun K hK => ?_)
            go_simp
            have hb2 := hb06.alloc (Nat.le_of_eq HS6.out.symm) (.cells #[.int .u32 m3.rule, .string m3.route, .int .i64 m3.at_, .slice q3 m3.ks.length d3, .slice q4 m3.ss.length d4, .int .i64 tr, .int .i64 nx] 36)
            refine hK _ _ (.inr (kept_of_below hb2)) ?_
            clear hK K
            refine wpOrd_sole rfl (by kernel_rfl) rfl (fun K hK => ?_)
            refine wp_append_sl encO_len (.tmp 49) (.tmp 51) 33 (by rfl) 0 36 i0 _ 96 Try.underlying33 HI.out HI0.out HI1.out HI2.out (by rfl) (by decide) (v := .slice p1 rs.length c1) (xs := rs) (ys := [⟨⟨.slice q3 m3.ks.length d3, .slice q4 m3.ss.length d4, m3⟩, tr, nx⟩]) (by rfl) (by rfl) (owns_keep HIN.out.own (fun b e => hb2.block b (HIN.out.own.lt b e).2)) (Sl.one (S := fun _ => True) encO_len (Box.new _ _ _) rfl trivial) (by simp [Value.oneCell']) (by simp only [List.length_cons, List.length_nil]; unfold maxLen; omega) (by simp only [List.length_cons, List.length_nil]; omega) (by omega) ?_
            intro v2 w2 hown hk3 hat
            obtain ⟨p4, q5, rfl⟩ := owns_slice hown
            have hk2 := Kept.first hb2 hk3
            refine hK _ _ (.inr hk2) ?_
            clear hK K
            simp only [Act.put, List.setIfInBounds_toArray]
            have c := (HIN.out.box.kept hk2 HNP.out).rd.1
            have z := (HIN.out.box.kept hk2 HNP.out).rd.2
            iterate 2 ((first | (refine wpOrd_free (v := ?_) rfl (by kernel_rfl) (fun _ _ _ h => h) (Or.inl ⟨rfl, fun w' hS => ?_⟩) hk2 ?_; rotate_left; (skip; go_simp <;> with_reducible rfl)) | (refine wpOrd_free (v := undef) rfl (by kernel_rfl) (fun _ _ _ h => h) (Or.inr ⟨rfl, rfl⟩) hk2 ?_)); (simp only [Act.put, List.setIfInBounds_toArray, List.set_cons_zero, List.set_cons_succ]))
            refine wpOrd_sole rfl (by kernel_rfl) rfl (fun K hK => ?_)
            go_simp
            refine hK _ _ (.inl rfl) ?_
            clear hK K
            refine ⟨by kernel_rfl, ?_⟩
            rw [List.length_append] at hat hown
            have hat' : (Value.slice p4 (rs.length + 1) q5).ownBlock = (Value.slice p1 rs.length c1).ownBlock ∨ ∃ b, W5.heap.size ≤ b ∧ (Value.slice p4 (rs.length + 1) q5).ownBlock = some b := by
              rcases hat with h | h
              · exact .inl h
              · exact .inr ⟨_, hb2.size, h⟩
            have hfin := bxin_snoc (w3 := w3) (o := ⟨⟨.slice q3 m3.ks.length d3, .slice q4 m3.ss.length d4, m3⟩, tr, nx⟩) HIN.out (fun b hb => ⟨by omega, by omega⟩) (by omega) (by have := HS5.out; omega) HMW5.out (fun b e => by have := HOL.out b e; omega) hown hk2 hat'
            have HXN : Hid (BxAt (fun b => p < b) p (w2.setCell ⟨p, 0, none⟩ (.slice p4 (rs.length + 1) q5)) (xs.take (k + 1))) := Lib.hid (BxAt.mono (S := fun b => p < b ∧ b ≠ t6) ⟨_, _, by rw [List.map_append, HRS.out, HTS.out]; rfl, hfin⟩ (fun b _ s => s.1) (fun s => by omega))
            have hkz : Kept (fun b => w.heap.size ≤ b) W5 (w2.setCell ⟨p, 0, none⟩ (.slice p4 (rs.length + 1) q5)) := (hk2.mono (fun b _ e => by have := (HIN.out.os b e).1; have := HP.out; omega)).setCell _ _ (fun _ => by show w.heap.size ≤ p; have := HP.out; omega)
            have HBN : Hid (Below w.heap.size w (w2.setCell ⟨p, 0, none⟩ (.slice p4 (rs.length + 1) q5))) := Lib.hid ((Kept.first HB5.out hkz).below (fun b h => h) (Nat.le_refl _))
            clear hkz hfin hat hat' hown hk3 hk2 hb2 hb0 hb06 c z
            go_wp2_with fail
            refine ⟨⟨k + 1, by simp, by omega, fun j y hj hy => ?_, HXN.out, HBN.out⟩, by simp [intOf]; omega⟩
            by_cases hjk : j < k
            · exact HG.out j y hjk hy
            · obtain rfl : j = k := by omega
              rw [HX.out] at hy
              cases hy
              exact HGK.out
    · obtain rfl : k = xs.length := by omega
      rw [List.take_length] at hX
      have HXX := Lib.hid hX
      have HGG : Hid (GoodO xs) := Lib.hid ⟨by omega, fun j x hx => HG.out j x (List.getElem?_eq_some_iff.1 hx).1 hx⟩
      clear hX
      go_wp2_with fail
      go_ret2
      refine .inl ⟨HGG.out, p, rfl, BxM.of HXX.out (fun b hb s m => ?_) (fun m => ?_), HB.out⟩
      · have s' : p < b := s
        have := HP.out
        rcases m with m | m <;> omega
      · have := HP.out
        have := HXX.out.lt
        rcases m with m | m <;> omega
  · have h6' : (6 : Int) < (xs.length : Int) := by omega
    have HG : Hid (¬ GoodO xs) := Lib.hid fun g => h6 g.1
    clear h6
    go_enter Try.func17, Try.ntmps17
    go_wp2_with fail
    go_ret2
    exact .inr ⟨HG.out, rfl, Below.refl _ _⟩
end Go.Proofs.Ytfaafndaelmbfaa
