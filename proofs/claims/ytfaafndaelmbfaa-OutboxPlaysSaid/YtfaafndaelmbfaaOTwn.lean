/- The law's twin and spoil. -/
import Derived.Test.YtfaafndaelmbfaaORfs
namespace Go.Proofs.Ytfaafndaelmbfaa
open Go.RowKit
attribute [local go_sem] Oper.semAt_some

set_option maxRecDepth 100000 in
set_option maxHeartbeats 2000000 in
theorem ltwin_any {S : Nat → Prop} {x : Mr} {w : World} (h : Mo S w x) (hf : Few x.m) :
    Calls Try.prog 23 #[mv x] w (TwinTo x.m w) := by
  obtain ⟨kv, sv, m⟩ := x
  obtain ⟨q1, d1, e3, -, -⟩ := h.k.len
  obtain ⟨q2, d2, e4, -, -⟩ := h.s.len
  simp only at e3 e4 hf ⊢
  subst e3 e4
  have b1 := (Box.new w (mc ⟨.slice q1 m.ks.length d1, .slice q2 m.ss.length d2, m⟩) 31).alloc (.cells zm 31)
  have b2 := Box.new (w.alloc (.cells (mc ⟨.slice q1 m.ks.length d1, .slice q2 m.ss.length d2, m⟩) 31)) zm 31
  rw [World.size_alloc] at b2
  have hb : Below w.heap.size w ((w.alloc (.cells (mc ⟨.slice q1 m.ks.length d1, .slice q2 m.ss.length d2, m⟩) 31)).alloc (.cells zm 31)) := ((Below.refl _ w).alloc (Nat.le_refl _) _).alloc (by simp) _
  obtain ⟨i0, hi, hi0, hi1, hi2⟩ := info_parts info_string
  obtain ⟨j0, hj, hj0, hj1, hj2⟩ := info_parts info_int
  have HI := Lib.hid hi
  have HI0 := Lib.hid hi0
  have HI1 := Lib.hid hi1
  have HI2 := Lib.hid hi2
  have HJ := Lib.hid hj
  have HJ0 := Lib.hid hj0
  have HJ1 := Lib.hid hj1
  have HJ2 := Lib.hid hj2
  have HK := Lib.hid (h.k.below hb)
  have HS := Lib.hid ((h.s.mono (T := fun b => b < w.heap.size) (fun b hb _ => hb)).below hb)
  have hf1 := hf.1
  have hf2 := hf.2
  obtain ⟨W, hW⟩ : ∃ W, ((w.alloc (.cells (mc ⟨.slice q1 m.ks.length d1, .slice q2 m.ss.length d2, m⟩) 31)).alloc (.cells zm 31)) = W := ⟨_, rfl⟩
  rw [hW] at b1 b2 hb HK HS
  have HW := Lib.hid hW
  have hl2 := b2.lt
  obtain ⟨t1, ht1⟩ : ∃ t1, w.heap.size = t1 := ⟨_, rfl⟩
  have HT1 := Lib.hid ht1
  rw [ht1] at b1 b2 hl2
  have hl1 : t1 < W.heap.size := by omega
  have HB := Lib.hid hb
  have B1 := Lib.hid b1
  have B2 := Lib.hid b2
  obtain ⟨c1, f1⟩ := b1.rd
  have HOA := Lib.hid (World.ownsRow_lit (size := 1) (base := W.heap.size) (e := 9) W #[] 0 (Nat.le_refl _) (by decide) rfl)
  have HBA : Hid (Below W.heap.size W (W.alloc (.cells #[] 9))) := Lib.hid ((Below.refl _ W).alloc (Nat.le_refl _) _)
  clear hi hi0 hi1 hi2 hj hj0 hj1 hj2 h hf hW hb b1 b2
  go_enter Try.func23, Try.ntmps23
  go_upto_region 1 with fail
  rw [HW.out]
  clear ht1
  go_wp2_with (first | (at_builtin; refine wpList_append_sl encS_len rfl (.tmp 3) (.tmp 5) 28 rfl W.heap.size 9 i0 _ 16 Try.underlying28 HI.out HI0.out HI1.out HI2.out rfl (by decide) (v := .slice (some ⟨W.heap.size, 0, none⟩) 0 0) (xs := []) (ys := m.ks) rfl rfl HOA.out (HK.out.below HBA.out) (by simp [Value.oneCell']) (by unfold maxLen; simp; omega) (by simp; omega) HBA.out.size ?_; intro v1 w1 hown1 hk1 hat1; rw [List.nil_append] at hown1; obtain ⟨p1, r1, rfl⟩ := owns_slice hown1; have hb1 : Below W.heap.size W w1 := HBA.out.trans (hk1.below (B := W.heap.size) (fun k e => by simp [Value.ownBlock] at e; omega) HBA.out.size); have HO1 := Lib.hid hown1; have HB1 := Lib.hid hb1; have hs1 := hb1.size; obtain ⟨c1, f1⟩ := (B1.out.below hb1).rd; have hl3 : t1 < w1.heap.size := (by omega); clear hown1 hk1 hat1 hb1) | (at_builtin; (obtain ⟨W2, hW2⟩ : ∃ W2, w1.setCell ⟨t1, 3, none⟩ (.slice p1 m.ks.length r1) = W2 := ⟨_, rfl⟩); (have hkc : Kept (fun b => b = t1) w1 W2 := (by rw [← hW2]; exact (Kept.refl _ w1).setCell _ _ (fun _ => rfl))); (have hbx : Box W2 t1 (mc ⟨.slice p1 m.ks.length r1, .slice q2 m.ss.length d2, m⟩) 31 := (by rw [← hW2]; exact (B1.out.below HB1.out).set (i := 3) (.slice p1 m.ks.length r1))); (have hsz2 : W2.heap.size = w1.heap.size := (by rw [← hW2]; simp)); rw [hW2, ← hsz2]; have HKC := Lib.hid hkc; have HBX := Lib.hid hbx; have HSZ2 := Lib.hid hsz2; clear hW2 hkc hbx hsz2 c1 f1; (have hba : Below W2.heap.size W2 (W2.alloc (.cells #[] 3)) := (Below.refl _ W2).alloc (Nat.le_refl _) _); refine wpList_append_sl encJ_len rfl (.tmp 8) (.tmp 10) 29 rfl W2.heap.size 3 j0 _ 8 Try.underlying29 HJ.out HJ0.out HJ1.out HJ2.out rfl (by decide) (v := .slice (some ⟨W2.heap.size, 0, none⟩) 0 0) (xs := []) (ys := m.ss) rfl rfl (World.ownsRow_lit (size := 1) (base := W2.heap.size) (e := 3) W2 #[] 0 (Nat.le_refl _) (by decide) rfl) (((HS.out.below HB1.out).kept HKC.out (fun b _ s e => by have := HT1.out; omega)).below hba) (by simp [Value.oneCell']) (by unfold maxLen; simp; omega) (by simp; omega) hba.size ?_; intro v2 w2 hown2 hk2 hat2; rw [List.nil_append] at hown2; obtain ⟨p2, r2, rfl⟩ := owns_slice hown2; (have hb2 : Below W2.heap.size W2 w2 := hba.trans (hk2.below (B := W2.heap.size) (fun k e => by simp [Value.ownBlock] at e; omega) hba.size)); have HO2 := Lib.hid hown2; have HB2 := Lib.hid hb2; obtain ⟨c1, f1⟩ := (HBX.out.below hb2).rd; obtain ⟨c2, f2⟩ := (((B2.out.below HB1.out).kept HKC.out (by omega)).below hb2).rd; clear hown2 hk2 hat2 hb2 hba))
  refine bodyPost_gen (fun W' => Kept (fun b => b = t1 ∨ b = t1 + 1) w2 W' ∧ Box W' (t1 + 1) (mc ⟨.slice p1 m.ks.length r1, .slice p2 m.ss.length r2, m⟩) 31) ⟨?_, ?_⟩ ?_
  · exact ((((((Kept.refl _ w2).setCell _ _ (by simp)).setCell _ _ (by simp)).setCell _ _ (by simp)).setCell _ _ (by simp)).setCell _ _ (by simp)).setCell _ _ (by simp)
  · exact (((((((((B2.out.below HB1.out).kept HKC.out (by omega)).below HB2.out).other _ (by omega)).set _).set _).set _).set _).set _)
  rintro W' ⟨hk, hm⟩
  obtain ⟨r0, _⟩ := hm.rd
  refine bodyPost_ret (v := mv ⟨.slice p1 m.ks.length r1, .slice p2 m.ss.length r2, m⟩) ?_ rfl ?_
  · simp [results, Try.results23, go_sem, r0]
  · have hsz := HB.out.size
    have hT := HT1.out
    have hz2 := HSZ2.out
    have hz3 := HB2.out.size
    have hk12 : Kept (fun b => w.heap.size ≤ b) w w2 := ((Kept.first (HB.out.trans (HB1.out.mono hsz)) (HKC.out.mono (G := fun b => w.heap.size ≤ b) (fun b _ e => by omega))).later HB2.out)
    refine ⟨⟨.slice p1 m.ks.length r1, .slice p2 m.ss.length r2, m⟩, rfl, rfl, ⟨owns_lower (owns_keep (owns_keep (owns_keep HO1.out (fun b e => HKC.out.block b (HO1.out.lt b e).2 (by have := (HO1.out.lt b e).1; omega))) (fun b e => HB2.out.block b (by have := (HO1.out.lt b e).2; omega))) (fun b e => hk.block b (by have := (HO1.out.lt b e).2; omega) (by have := (HO1.out.lt b e).1; omega))) (by omega), owns_lower (owns_keep HO2.out (fun b e => hk.block b (HO2.out.lt b e).2 (by have := (HO2.out.lt b e).1; omega))) (by omega), fun b e1 e2 => ?_⟩, (hk12.trans hk (fun _ _ x => x) (fun b _ e => by omega)).below (fun b x => x) (Nat.le_refl _)⟩
    have := (HO1.out.lt b e1).2
    have := (HO2.out.lt b e2).1
    omega
/-- each block is of the shape it was -/
def Shapes (w w' : World) : Prop := ∀ b cs t, Box w b cs t → ∃ cs', Box w' b cs' t ∧ cs'.size = cs.size
theorem Shapes.refl (w : World) : Shapes w w := fun _ cs _ h => ⟨cs, h, rfl⟩
theorem Shapes.set {w W : World} (h : Shapes w W) (b i : Nat) (v : Value) : Shapes w (W.setCell ⟨b, i, none⟩ v) := fun b' cs t hb => by
  obtain ⟨cs', h1, h2⟩ := h b' cs t hb
  by_cases e : b' = b
  · subst e
    exact ⟨_, h1.set v, by rw [Array.size_setIfInBounds]; exact h2⟩
  · exact ⟨cs', h1.other v e, h2⟩
theorem Shapes.trans {a b c : World} (h : Shapes a b) (k : Shapes b c) : Shapes a c := fun x cs t hx => by
  obtain ⟨cs', h1, h2⟩ := h x cs t hx
  obtain ⟨cs2, h3, h4⟩ := k x cs' t h1
  exact ⟨cs2, h3, h4.trans h2⟩
theorem Shapes.below {a b : World} (h : Below a.heap.size a b) : Shapes a b := fun _ cs _ hx => ⟨cs, hx.below h, rfl⟩
/-- a list that may be written, whatever it holds -/
def Wr (W : World) (v : Value) (n : Nat) : Prop := 0 < n → ∃ b c cs t, v = .slice (some ⟨b, 0, none⟩) n c ∧ Box W b cs t ∧ n ≤ cs.size
theorem Wr.of {W : World} {base : Nat} {e : TypeId} {v : Value} {n : Nat} {xs : List Value} (h : W.ownsRow base e 1 v n xs) : Wr W v n := fun hp => by
  rcases h.2 with ⟨_, h0⟩ | ⟨g, cap, cur, rfl, hb, hg, h1, h2, h3, h4⟩
  · omega
  · exact ⟨g, cap, cur, e, rfl, hg, by omega⟩
theorem Wr.shapes {W W' : World} {v : Value} {n : Nat} (h : Wr W v n) (hs : Shapes W W') : Wr W' v n := fun hp => by
  obtain ⟨b, c, cs, t, e, hb, hn⟩ := h hp
  obtain ⟨cs', h1, h2⟩ := hs b cs t hb
  exact ⟨b, c, cs', t, e, h1, by omega⟩
/-- the blocks of a message's lists -/
def Fs (v1 v2 : Value) (b : Nat) : Prop := v1.ownBlock = some b ∨ v2.ownBlock = some b
def SpTo (v1 v2 : Value) (w : World) (e : Ending) (w' : World) : Prop := e = .returned (.tuple #[]) ∧ Kept (Fs v1 v2) w w' ∧ Shapes w w'
set_option maxRecDepth 100000 in
set_option maxHeartbeats 2000000 in
theorem spoil_any {p1 p2 : Option Addr} {c1 c2 : Nat} {m : Ms} {w : World} (h1 : Wr w (.slice p1 m.ks.length c1) m.ks.length) (h2 : Wr w (.slice p2 m.ss.length c2) m.ss.length) (hf : Few m)
    (hl : ∀ b, Fs (.slice p1 m.ks.length c1) (.slice p2 m.ss.length c2) b → b < w.heap.size) :
    Calls Try.prog 21 #[mv ⟨.slice p1 m.ks.length c1, .slice p2 m.ss.length c2, m⟩] w (SpTo (.slice p1 m.ks.length c1) (.slice p2 m.ss.length c2) w) := by
  have b1 := Box.new w (mc ⟨.slice p1 m.ks.length c1, .slice p2 m.ss.length c2, m⟩) 31
  have hb0 : Below w.heap.size w (w.alloc (.cells (mc ⟨.slice p1 m.ks.length c1, .slice p2 m.ss.length c2, m⟩) 31)) := (Below.refl _ w).alloc (Nat.le_refl _) _
  have H1 := Lib.hid (h1.shapes (Shapes.below hb0))
  have H2 := Lib.hid (h2.shapes (Shapes.below hb0))
  have HSH := Lib.hid (Shapes.below hb0)
  have HB := Lib.hid hb0
  have hf1 := hf.1
  have hf2 := hf.2
  obtain ⟨F, hF⟩ : ∃ F, F = Fs (.slice p1 m.ks.length c1) (.slice p2 m.ss.length c2) := ⟨_, rfl⟩
  have HF1 : Hid (∀ b c, p1 = some ⟨b, 0, none⟩ → c = c1 → F b) := Lib.hid (by rintro b c rfl rfl; rw [hF]; exact .inl rfl)
  have HF2 : Hid (∀ b c, p2 = some ⟨b, 0, none⟩ → c = c2 → F b) := Lib.hid (by rintro b c rfl rfl; rw [hF]; exact .inr rfl)
  have HFF := Lib.hid hF
  obtain ⟨W, hW⟩ : ∃ W, (w.alloc (.cells (mc ⟨.slice p1 m.ks.length c1, .slice p2 m.ss.length c2, m⟩) 31)) = W := ⟨_, rfl⟩
  rw [hW] at b1 H1 H2 HSH HB
  have HW := Lib.hid hW
  obtain ⟨t, ht⟩ : ∃ t, w.heap.size = t := ⟨_, rfl⟩
  have HNT : Hid (¬ F t) := Lib.hid fun e => by rw [hF] at e; have := hl t e; omega
  rw [ht] at b1
  have B1 := Lib.hid b1
  clear h1 h2 hf hl hb0 hF hW b1
  go_enter Try.func21, Try.ntmps21
  go_upto_region 1 with fail
  rw [HW.out]
  clear ht
  have cx := B1.out.rd.1
  go_wp2_with fail
  go_loopw [2] (fun i wr => ∃ k : Nat, i = .int .i64 k ∧ k ≤ m.ks.length ∧ Kept F W wr ∧ Shapes W wr) (fun i _ => m.ks.length - (intOf i).toNat)
  · exact ⟨0, rfl, by omega, Kept.refl _ _, Shapes.refl _⟩
  obtain ⟨k, rfl, hk, hK, hS⟩ := hrel
  have HK := Lib.hid hK
  have HS := Lib.hid hS
  clear hK hS cx
  have cx := (B1.out.kept HK.out HNT.out).rd.1
  by_cases hlt : k < m.ks.length
  · obtain ⟨b, c, cs, tt, e, hb, hs⟩ := (H1.out.shapes HS.out) (by omega)
    simp only [Value.slice.injEq, true_and] at e
    obtain ⟨rfl, rfl⟩ := e
    have hFb := HF1.out b _ rfl rfl
    obtain ⟨ov, hov⟩ : ∃ ov, cs[k]? = some ov := ⟨_, Array.getElem?_eq_getElem (by omega)⟩
    have ck : wr.cell? ⟨b, k, none⟩ = some ov := by rw [hb.rd.1]; exact hov
    have fk := hb.rd.2 k
    have hkk : (k : Int) < (m.ks.length : Int) := by omega
    clear hb hs hov
    go_wp2_with fail
    exact ⟨⟨k + 1, by simp, by omega, HK.out.setCell _ _ (fun _ => hFb), HS.out.set _ _ _⟩, by simp [intOf]; omega⟩
  · obtain rfl : k = m.ks.length := by omega
    go_wp2_with fail
    obtain ⟨wy, hwy⟩ : ∃ wy, wy = wr := ⟨_, rfl⟩
    rw [← hwy] at HK HS cx ⊢
    clear hwy
    go_loopw [3] (fun i wr => ∃ k : Nat, i = .int .i64 k ∧ k ≤ m.ss.length ∧ Kept F W wr ∧ Shapes W wr) (fun i _ => m.ss.length - (intOf i).toNat)
    · exact ⟨0, rfl, by omega, HK.out, HS.out⟩
    clear HK HS cx
    obtain ⟨k, rfl, hk, hK, hS⟩ := hrel
    have HK := Lib.hid hK
    have HS := Lib.hid hS
    clear hK hS
    have cx := (B1.out.kept HK.out HNT.out).rd.1
    by_cases hlt : k < m.ss.length
    · obtain ⟨b, c, cs, tt, e, hb, hs⟩ := (H2.out.shapes HS.out) (by omega)
      simp only [Value.slice.injEq, true_and] at e
      obtain ⟨rfl, rfl⟩ := e
      have hFb := HF2.out b _ rfl rfl
      obtain ⟨ov, hov⟩ : ∃ ov, cs[k]? = some ov := ⟨_, Array.getElem?_eq_getElem (by omega)⟩
      have ck : wr.cell? ⟨b, k, none⟩ = some ov := by rw [hb.rd.1]; exact hov
      have fk := hb.rd.2 k
      have hkk : (k : Int) < (m.ss.length : Int) := by omega
      clear hb hs hov
      go_wp2_with fail
      exact ⟨⟨k + 1, by simp, by omega, HK.out.setCell _ _ (fun _ => hFb), HS.out.set _ _ _⟩, by simp [intOf]; omega⟩
    · obtain rfl : k = m.ss.length := by omega
      have HKF := Lib.hid (Kept.first HB.out HK.out)
      have HSF := Lib.hid (HSH.out.trans HS.out)
      go_wp2_with fail
      go_end0
      exact ⟨rfl, by rw [← HFF.out]; exact HKF.out, HSF.out⟩
end Go.Proofs.Ytfaafndaelmbfaa
