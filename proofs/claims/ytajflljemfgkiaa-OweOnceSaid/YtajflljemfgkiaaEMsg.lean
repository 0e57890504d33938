/- Message: owe's -/
import Derived.Test.YtajflljemfgkiaaETel
import Derived.Laws.OwnMore
import Derived.Deep.DeepCutAuto
namespace Go.Proofs.Ytajflljemfgkiaa
open Go.RowKit
attribute [local go_sem] Oper.semAt_some

/-- a rule, with the values of its two slices -/
structure Rl where
  name : ByteArray
  by_ : ByteArray
  nodes : Value
  for_ : Int
  every : Int
  rep : Int
  mv : Value
  mutes : List ByteArray
  route : ByteArray
abbrev rc (r : Rl) : Array Value := #[.string r.name, .string r.by_, r.nodes, .int .i64 r.for_, .int .i64 r.every, .int .i64 r.rep, r.mv, .string r.route]
abbrev rv (r : Rl) : Value := .agg #[.string r.name, .string r.by_, r.nodes, .int .i64 r.for_, .int .i64 r.every, .int .i64 r.rep, r.mv, .string r.route]
def isBy (s : ByteArray) (x : Al) : Bool := decide (x.by_ = s)
def sinceOf (l : List Al) (s : ByteArray) : Int := match l.find? (isBy s) with | some x => x.since | none => 0
def msgOf (r : Rl) (fp : Int) (l : List Al) (keys : List ByteArray) (at_ : Int) : Ms := ⟨fp, r.route, at_, keys, keys.map (sinceOf l)⟩
def MsgTo (m : Ms) (w : World) (en : Ending) (w' : World) : Prop := ∃ r, en = .returned (mv r) ∧ r.m = m ∧ Mw w.heap.size w' r ∧ Below w.heap.size w w'
/-- the first one, or -1 -/
def FoundA (l : List Al) (s : ByteArray) (z : Int) : Prop := (z = -1 ∧ sinceOf l s = 0) ∨ ∃ (k : Nat) (x : Al), z = k ∧ l[k]? = some x ∧ sinceOf l s = x.since
theorem find_at {l : List Al} {p : Al → Bool} : ∀ {k : Nat} {x : Al}, l[k]? = some x → p x = true → (∀ y ∈ l.take k, p y = false) → l.find? p = some x := by
  induction l with
  | nil => intro k x h; simp at h
  | cons y ys ih =>
    intro k x h hp ht
    match k, h with
    | 0, h =>
      obtain rfl : y = x := by simpa using h
      simp [hp]
    | k + 1, h =>
      have hy : p y = false := ht y (by simp)
      rw [List.find?_cons_of_neg (by rw [hy]; simp)]
      exact ih (by simpa using h) hp (fun z hz => ht z (by simp [hz]))
set_option maxRecDepth 100000 in
set_option maxHeartbeats 1000000 in
theorem msg1_any {x : Al} {s : ByteArray} {b : Nat} {w : World} (h : Box w b #[.string s] 9) : Calls Try.prog 29 #[av x, .pointer (some ⟨b, 0, none⟩)] w (Tells (.bool (isBy s x)) w) := by
  obtain ⟨r, by_, st, si, t⟩ := x
  have hb0 : Below w.heap.size w (w.alloc (.cells (ac ⟨r, by_, st, si, t⟩) 39)) := (Below.refl _ w).alloc (Nat.le_refl _) _
  have HB := Lib.hid hb0
  have c := h.rd.1
  have hl := h.lt
  clear h hb0
  by_cases hq : by_ = s
  · subst hq
    have e : isBy by_ ⟨r, by_, st, si, t⟩ = true := by unfold isBy; simp
    rw [e]
    clear e
    go_enter Try.func29, Try.ntmps29
    go_wp2_with fail
    go_ret
    exact ⟨by simp, HB.out⟩
  · have e : isBy s ⟨r, by_, st, si, t⟩ = false := by unfold isBy; simp [hq]
    rw [e]
    have hne := str_ne hq
    clear e hq
    go_enter Try.func29, Try.ntmps29
    go_wp2_with fail
    go_ret
    exact ⟨by simp, HB.out⟩
def IdxTo (l : List Al) (s : ByteArray) (w : World) (e : Ending) (w' : World) : Prop := ∃ z, e = .returned (.int .i64 z) ∧ FoundA l s z ∧ Below w.heap.size w w'
set_option maxRecDepth 100000 in
set_option maxHeartbeats 1000000 in
theorem idxA_any {S : Nat → Prop} {v : Value} {l : List Al} {s : ByteArray} {b : Nat} {w : World} (h : Sl S w v 5 encA l) (hn : l.length ≤ 100000) (hbx : Box w b #[.string s] 9) :
    Calls Try.prog 28 #[v, .func (.func 29) #[] #[.pointer (some ⟨b, 0, none⟩)]] w (IdxTo l s w) := by
  obtain ⟨p, c, rfl, -, -⟩ := h.len
  have HM := Lib.hid h
  have H4 := Lib.hid hbx
  clear h hbx
  go_enter Try.func28, Try.ntmps28
  go_wp2_with fail
  go_loopw [5, 8] (fun _ iv_ wr => ∃ k : Nat, iv_ = .int .i64 k ∧ k ≤ l.length ∧ (∀ x ∈ l.take k, isBy s x = false) ∧ Below w.heap.size w wr) (fun _ iv_ _ => l.length - (intOf iv_).toNat)
  · exact ⟨0, rfl, by omega, (fun x hx => by simp at hx), Below.refl _ _⟩
  obtain ⟨k, rfl, hk, hf, hB⟩ := hrel
  have HF := Lib.hid hf
  have HB := Lib.hid hB
  clear hf hB
  by_cases hlt : k < l.length
  · obtain ⟨⟨r, by_, st, si, t⟩, hx⟩ : ∃ z, l[k]? = some z := ⟨_, List.getElem?_eq_getElem hlt⟩
    obtain ⟨a, rfl, -, -, hM⟩ := (HM.out.below HB.out).at hx
    obtain ⟨x0, x1, x2, x3, x4⟩ := cells_A hM hx
    simp only at x0 x1 x2 x3 x4
    have hkk : (k : Int) < (l.length : Int) := by omega
    have HZ := Lib.hid hx
    have HC := Lib.hid (msg1_any (x := ⟨r, by_, st, si, t⟩) (H4.out.below HB.out))
    clear hM hx
    go_wp2_with fail
    refine HC.out.mono ?_
    rintro e w1 ⟨rfl, hb⟩
    have HB1 := Lib.hid (HB.out.trans (hb.mono HB.out.size))
    obtain ⟨f, hfe⟩ : ∃ f, isBy s ⟨r, by_, st, si, t⟩ = f := ⟨_, rfl⟩
    rw [hfe]
    have HFE := Lib.hid hfe
    clear hb hfe HC x0 x1 x2 x3 x4
    cases f with
    | false =>
      have HTS := Lib.hid (take_snoc' HZ.out)
      go_wp2_with fail
      refine ⟨⟨k + 1, by simp, by omega, ?_, HB1.out⟩, by simp [intOf]; omega⟩
      rw [HTS.out]
      intro y hy
      rcases List.mem_append.1 hy with hy | hy
      · exact HF.out y hy
      · obtain rfl := List.mem_singleton.1 hy
        exact HFE.out
    | true =>
      go_wp2_with fail
      go_ret
      refine ⟨_, rfl, .inr ⟨k, _, rfl, HZ.out, ?_⟩, HB1.out⟩
      unfold sinceOf
      rw [find_at HZ.out HFE.out HF.out]
  · obtain rfl : k = l.length := by omega
    rw [List.take_length] at HF
    go_wp2_with fail
    go_ret
    refine ⟨_, rfl, .inl ⟨rfl, ?_⟩, HB.out⟩
    unfold sinceOf
    rw [List.find?_eq_none.2 (fun x hx => by rw [HF.out x hx]; simp)]
theorem msg_round {fp at_ : Int} {rt : ByteArray} {keys : List ByteArray} {zs : List Int} {q3 q4 q5 : Option Addr} {d3 d4 d5 bm : Nat} {W0 w2 w5 : World} {sv : Int} {o : Obj}
    (hbx : Box w2 bm #[.int .u32 fp, .string rt, .int .i64 at_, .slice q3 keys.length d3, .slice q4 zs.length d4] 33) (hks : w2.ownsRow W0.heap.size 9 1 (.slice q3 keys.length d3) keys.length (keys.flatMap encS)) (hoz : w2.ownsRow W0.heap.size 3 1 (.slice q4 zs.length d4) zs.length (zs.flatMap encJ))
    (hn1 : (Value.slice q4 zs.length d4).ownBlock ≠ some bm) (hn2 : ∀ b, (Value.slice q3 keys.length d3).ownBlock = some b → (Value.slice q4 zs.length d4).ownBlock ≠ some b) (hB : Below W0.heap.size W0 w2) (hbs : W0.heap.size ≤ bm) (hn3 : (Value.slice q3 keys.length d3).ownBlock ≠ some bm)
    (hown : w5.ownsRow W0.heap.size 3 1 (.slice q5 (zs ++ [sv]).length d5) (zs ++ [sv]).length ((zs ++ [sv]).flatMap encJ)) (hk : Kept (fun b => (Value.slice q4 zs.length d4).ownBlock = some b) (w2.alloc o) w5) (hat : (Value.slice q5 (zs ++ [sv]).length d5).ownBlock = (Value.slice q4 zs.length d4).ownBlock ∨ (Value.slice q5 (zs ++ [sv]).length d5).ownBlock = some (w2.alloc o).heap.size) :
    Box (w5.setCell ⟨bm, 4, none⟩ (.slice q5 (zs ++ [sv]).length d5)) bm #[.int .u32 fp, .string rt, .int .i64 at_, .slice q3 keys.length d3, .slice q5 (zs ++ [sv]).length d5] 33 ∧ (w5.setCell ⟨bm, 4, none⟩ (.slice q5 (zs ++ [sv]).length d5)).ownsRow W0.heap.size 9 1 (.slice q3 keys.length d3) keys.length (keys.flatMap encS) ∧ (w5.setCell ⟨bm, 4, none⟩ (.slice q5 (zs ++ [sv]).length d5)).ownsRow W0.heap.size 3 1 (.slice q5 (zs ++ [sv]).length d5) (zs ++ [sv]).length ((zs ++ [sv]).flatMap encJ) ∧
      ((Value.slice q5 (zs ++ [sv]).length d5).ownBlock ≠ some bm ∧ ∀ b, (Value.slice q3 keys.length d3).ownBlock = some b → (Value.slice q5 (zs ++ [sv]).length d5).ownBlock ≠ some b) ∧ Below W0.heap.size W0 (w5.setCell ⟨bm, 4, none⟩ (.slice q5 (zs ++ [sv]).length d5)) := by
  obtain ⟨v5, hv5⟩ : ∃ v5, Value.slice q5 (zs ++ [sv]).length d5 = v5 := ⟨_, rfl⟩
  rw [hv5] at hown hat ⊢
  have hs2 := hB.size
  have hal : Below w2.heap.size w2 (w2.alloc o) := (Below.refl _ w2).alloc (Nat.le_refl _) _
  have hk1 := Kept.first hal hk
  have hbl := hbx.lt
  rw [World.size_alloc] at hat
  have h1 : v5.ownBlock ≠ some bm := fun e => by
    rcases hat with h | h
    · exact hn1 (h ▸ e)
    · rw [h] at e; cases e; omega
  have h2 : ∀ b, (Value.slice q3 keys.length d3).ownBlock = some b → v5.ownBlock ≠ some b := fun b hb e => by
    rcases hat with h | h
    · exact hn2 b hb (h ▸ e)
    · rw [h] at e; cases e; have := (hks.lt _ hb).2; omega
  have hkb : Kept (fun b => b = bm) w5 (w5.setCell ⟨bm, 4, none⟩ v5) := (Kept.refl (fun b => b = bm) w5).setCell _ _ (fun _ => rfl)
  refine ⟨(hbx.kept hk1 hn1).set _, ?_, owns_keep hown (fun b e => hkb.block b (hown.lt b e).2 (fun e' => h1 (by rw [e, e']))), ⟨h1, h2⟩, ?_⟩
  · refine owns_keep hks (fun b e => ?_)
    have hlt := (hks.lt b e).2
    exact (hkb.block b (Nat.lt_of_lt_of_le hlt hk1.size) (fun e' => hn3 (by rw [e, e']))).trans (hk1.block b hlt (hn2 b e))
  · exact hB.trans ((hk1.below (fun b e => (hoz.lt b e).1) hs2).trans (hkb.below (fun b e => by omega) (Nat.le_trans hs2 hk1.size)))
set_option maxRecDepth 100000 in
set_option maxHeartbeats 4000000 in
theorem message_any {S T : Nat → Prop} {R : Rl} {fp at_ : Int} {v1 v2 : Value} {l : List Al} {keys : List ByteArray} {w : World} (h1 : Sl S w v1 5 encA l) (h2 : Sl T w v2 1 encS keys) (hn1 : l.length ≤ 100000) (hn2 : keys.length ≤ 100000) (hnv : R.nodes.oneCell' = true) (hmv : R.mv.oneCell' = true) :
    Calls Try.prog 15 #[rv R, .int .u32 fp, v1, v2, .int .i64 at_] w (MsgTo (msgOf R fp l keys at_) w) := by
  have hb0 : Below w.heap.size w ((w.alloc (.cells (rc R) 25)).alloc (.cells zm 33)) := ((Below.refl _ w).alloc (Nat.le_refl _) _).alloc (by simp) _
  have b5 := (Box.new w (rc R) 25).alloc (.cells zm 33)
  have b10 := Box.new (w.alloc (.cells (rc R) 25)) zm 33
  rw [World.size_alloc] at b10
  obtain ⟨W0, hW0⟩ : ∃ W0, ((w.alloc (.cells (rc R) 25)).alloc (.cells zm 33)) = W0 := ⟨_, rfl⟩
  have hs0 : W0.heap.size = w.heap.size + 2 := by rw [← hW0]; simp
  rw [hW0] at hb0 b5 b10
  have HW0 := Lib.hid hW0
  have HS0 := Lib.hid hs0
  have HB0 := Lib.hid hb0
  have H5 := Lib.hid b5
  have H10 := Lib.hid b10
  have H1 := Lib.hid (h1.below hb0)
  have H2 := Lib.hid (h2.below hb0)
  have Q1 : Hid (∀ W : World, Below W0.heap.size W0 W → Calls Try.prog 27 #[v2] W (OwnsTo 9 (keys.flatMap encS) keys.length W)) := Lib.hid fun W hb => cloneS_any ((h2.below hb0).below hb) hn2
  obtain ⟨p1, c1, rfl, -, -⟩ := h1.len
  obtain ⟨p2, c2, rfl, -, -⟩ := h2.len
  obtain ⟨bq, hbq⟩ : ∃ bq, bq = w.heap.size := ⟨_, rfl⟩
  have HBQ := Lib.hid hbq
  have hl5 := b5.lt
  clear h1 h2 hb0 hW0 hs0 b5 b10 hbq
  obtain ⟨nm, by0, nv, fr, ev, rp, mvv, mu, rt⟩ := R
  go_enter Try.func15, Try.ntmps15
  go_wp2_with fail
  rw [HW0.out, ← HBQ.out]
  clear hnv hmv
  go_cut [11] (fun xv wx => ∃ bm q3 d3, xv = .pointer (some ⟨bm, 0, none⟩) ∧ Box wx bm #[.int .u32 fp, .string rt, .int .i64 at_, .slice q3 keys.length d3, .slice none 0 0] 33 ∧ wx.ownsRow W0.heap.size 9 1 (.slice q3 keys.length d3) keys.length (keys.flatMap encS) ∧ (Value.slice q3 keys.length d3).ownBlock ≠ some bm ∧ W0.heap.size ≤ bm ∧ Below W0.heap.size W0 wx)
  case first =>
    have c5 := H5.out.rd.1
    rw [← HBQ.out] at c5
    have hWl := H5.out.lt
    rw [← HBQ.out] at hWl
    refine anyH_start 9 (fun w' => Below W0.heap.size W0 w') (by kernel_rfl) rfl ?_
    have hb0 : Below W0.heap.size W0 W0.drew := (Below.refl _ W0).drew
    ((first | (refine anyH_free (i := 0) (v := ?_) rfl (by kernel_rfl) (fun _ _ _ h => h) (Or.inl ⟨rfl, fun w' hS => ?_⟩) hb0 ?_; rotate_left; (have c5 := (H5.out.below hS).rd.1; rw [← HBQ.out] at c5; go_simp <;> with_reducible rfl)) | (refine anyH_free (i := 0) (v := undef) rfl (by kernel_rfl) (fun _ _ _ h => h) (Or.inr ⟨rfl, rfl⟩) hb0 ?_)); (simp only [Act.put, List.setIfInBounds_toArray, List.set_cons_zero, List.set_cons_succ])); ((first | (refine anyH_free (i := 1) (v := ?_) rfl (by kernel_rfl) (fun _ _ _ h => h) (Or.inl ⟨rfl, fun w' hS => ?_⟩) hb0 ?_; rotate_left; (have c5 := (H5.out.below hS).rd.1; rw [← HBQ.out] at c5; go_simp <;> with_reducible rfl)) | (refine anyH_free (i := 1) (v := undef) rfl (by kernel_rfl) (fun _ _ _ h => h) (Or.inr ⟨rfl, rfl⟩) hb0 ?_)); (simp only [Act.put, List.setIfInBounds_toArray, List.set_cons_zero, List.set_cons_succ])); ((first | (refine anyH_free (i := 2) (v := ?_) rfl (by kernel_rfl) (fun _ _ _ h => h) (Or.inl ⟨rfl, fun w' hS => ?_⟩) hb0 ?_; rotate_left; (have c5 := (H5.out.below hS).rd.1; rw [← HBQ.out] at c5; go_simp <;> with_reducible rfl)) | (refine anyH_free (i := 2) (v := undef) rfl (by kernel_rfl) (fun _ _ _ h => h) (Or.inr ⟨rfl, rfl⟩) hb0 ?_)); (simp only [Act.put, List.setIfInBounds_toArray, List.set_cons_zero, List.set_cons_succ])); ((first | (refine anyH_free (i := 3) (v := ?_) rfl (by kernel_rfl) (fun _ _ _ h => h) (Or.inl ⟨rfl, fun w' hS => ?_⟩) hb0 ?_; rotate_left; (have c5 := (H5.out.below hS).rd.1; rw [← HBQ.out] at c5; go_simp <;> with_reducible rfl)) | (refine anyH_free (i := 3) (v := undef) rfl (by kernel_rfl) (fun _ _ _ h => h) (Or.inr ⟨rfl, rfl⟩) hb0 ?_)); (simp only [Act.put, List.setIfInBounds_toArray, List.set_cons_zero, List.set_cons_succ])); ((first | (refine anyH_free (i := 4) (v := ?_) rfl (by kernel_rfl) (fun _ _ _ h => h) (Or.inl ⟨rfl, fun w' hS => ?_⟩) hb0 ?_; rotate_left; (have c5 := (H5.out.below hS).rd.1; rw [← HBQ.out] at c5; go_simp <;> with_reducible rfl)) | (refine anyH_free (i := 4) (v := undef) rfl (by kernel_rfl) (fun _ _ _ h => h) (Or.inr ⟨rfl, rfl⟩) hb0 ?_)); (simp only [Act.put, List.setIfInBounds_toArray, List.set_cons_zero, List.set_cons_succ]))
    refine anyH_two (i := 5) (j := 7) rfl rfl (by kernel_rfl) rfl rfl (fun K hK => ?_) (fun K hK => ?_)
    · go_simp
      refine (Q1.out _ hb0).mono ?_
      rintro e w1 ⟨k1, rfl, ho1, hb1⟩
      obtain ⟨p3, q3, rfl⟩ := owns_slice ho1
      have hb2 := below_then hb0 hb1
      refine hK _ _ hb2 ?_
      clear hK K
      ((first | (refine anyH_free (i := 6) (v := ?_) rfl (by kernel_rfl) (fun _ _ _ h => h) (Or.inl ⟨rfl, fun w' hS => ?_⟩) hb2 ?_; rotate_left; (skip; go_simp <;> with_reducible rfl)) | (refine anyH_free (i := 6) (v := undef) rfl (by kernel_rfl) (fun _ _ _ h => h) (Or.inr ⟨rfl, rfl⟩) hb2 ?_)); (simp only [Act.put, List.setIfInBounds_toArray, List.set_cons_zero, List.set_cons_succ]))
      refine anyH_sole (i := 7) rfl (by kernel_rfl) rfl (fun K hK => ?_)
      go_simp
      have hb3 := hb2.alloc hb2.size (.cells zm 33)
      refine hK _ _ hb3 ?_
      clear hK K
      have hz := (Box.new w1 zm 33).rd
      obtain ⟨zz, zf⟩ := hz
      have hzl : w1.heap.size < (w1.alloc (.cells zm 33)).heap.size := by simp
      refine anyH_sole (i := 8) rfl (by kernel_rfl) rfl (fun K hK => ?_)
      go_simp
      refine hK _ _ (hb2.alloc hb2.size _) ?_
      clear hK K zz zf
      refine anyH_done (by kernel_rfl) ?_
      have HO1 := Lib.hid ho1
      have HBL := Lib.hid hb2
      clear ho1 hb1 hb2 hb3 hb0
      go_wp2_with fail
      go_meet
      case rel => exact ⟨w1.heap.size, p3, q3, rfl, Box.new _ _ _, owns_keep HO1.out (fun b e => Below.heap_alloc _ _ _ (HO1.out.lt b e).2), (fun e => by have := (HO1.out.lt _ e).2; omega), HBL.out.size, HBL.out.alloc HBL.out.size _⟩
    · go_simp
      have hba := hb0.alloc hb0.size (.cells zm 33)
      refine hK _ _ hba ?_
      clear hK K
      have hz := Box.new W0.drew zm 33
      have hzl : W0.heap.size < (W0.drew.alloc (.cells zm 33)).heap.size := by simp
      refine anyH_sole (i := 5) rfl (by kernel_rfl) rfl (fun K hK => ?_)
      go_simp
      refine (Q1.out _ hba).mono ?_
      rintro e w1 ⟨k1, rfl, ho1, hb1⟩
      obtain ⟨p3, q3, rfl⟩ := owns_slice ho1
      have hb2 := hba.trans (hb1.mono hba.size)
      refine hK _ _ hb2 ?_
      clear hK K
      have hz1 : Box w1 W0.heap.size zm 33 := hz.below hb1
      obtain ⟨zz, zf⟩ := hz1.rd
      have hzl1 := hz1.lt
      ((first | (refine anyH_free (i := 6) (v := ?_) rfl (by kernel_rfl) (fun _ _ _ h => h) (Or.inl ⟨rfl, fun w' hS => ?_⟩) hb2 ?_; rotate_left; (skip; go_simp <;> with_reducible rfl)) | (refine anyH_free (i := 6) (v := undef) rfl (by kernel_rfl) (fun _ _ _ h => h) (Or.inr ⟨rfl, rfl⟩) hb2 ?_)); (simp only [Act.put, List.setIfInBounds_toArray, List.set_cons_zero, List.set_cons_succ]))
      refine anyH_sole (i := 8) rfl (by kernel_rfl) rfl (fun K hK => ?_)
      go_simp
      have hbz : Box (((((w1.setCell ⟨W0.heap.size, 0, none⟩ (.int .u32 fp)).setCell ⟨W0.heap.size, 1, none⟩ (.string rt)).setCell ⟨W0.heap.size, 2, none⟩ (.int .i64 at_)).setCell ⟨W0.heap.size, 3, none⟩ (.slice p3 keys.length q3)).setCell ⟨W0.heap.size, 4, none⟩ (.slice none 0 0)) W0.heap.size #[.int .u32 fp, .string rt, .int .i64 at_, .slice p3 keys.length q3, .slice none 0 0] 33 := ((((hz1.set _).set _).set _).set _).set _
      have hkz := (((((Kept.refl (fun b => b = W0.heap.size) w1).setCell ⟨W0.heap.size, 0, none⟩ (.int .u32 fp) (fun _ => rfl)).setCell ⟨W0.heap.size, 1, none⟩ (.string rt) (fun _ => rfl)).setCell ⟨W0.heap.size, 2, none⟩ (.int .i64 at_) (fun _ => rfl)).setCell ⟨W0.heap.size, 3, none⟩ (.slice p3 keys.length q3) (fun _ => rfl)).setCell ⟨W0.heap.size, 4, none⟩ (.slice none 0 0) (fun _ => rfl)
      refine hK _ _ (hb2.trans (hkz.below (fun b e => Nat.le_of_eq e.symm) hb2.size)) ?_
      clear hK K zz zf
      refine anyH_done (by kernel_rfl) ?_
      have HO1 := Lib.hid ho1
      have HBZ := Lib.hid hbz
      have HKZ := Lib.hid hkz
      have HBL := Lib.hid (hb2.trans (hkz.below (fun b e => Nat.le_of_eq e.symm) hb2.size))
      have hne : ∀ b, (Value.slice p3 keys.length q3).ownBlock = some b → W0.heap.size + 1 ≤ b := fun b e => by have := (ho1.lt b e).1; rw [World.size_alloc] at this; exact this
      have HNE := Lib.hid hne
      clear ho1 hb1 hb2 hba hb0 hbz hkz hz hz1 hne
      go_wp2_with fail
      go_meet
      case rel => exact ⟨W0.heap.size, p3, q3, rfl, HBZ.out, owns_lower (owns_keep HO1.out (fun b e => HKZ.out.block b (HO1.out.lt b e).2 (by have := HNE.out b e; omega))) (by rw [World.size_alloc]; exact Nat.le_succ _), (fun e => by have := HNE.out _ e; omega), Nat.le_refl _, HBL.out⟩
  case rest =>
    obtain ⟨bm, q3, d3, rfl, hbm, hown, hne, hbs, hb⟩ := hcut
    obtain ⟨W1, hW1⟩ : ∃ W1, W1 = wc := ⟨_, rfl⟩
    rw [← hW1] at hbm hown hb ⊢
    have HOK := Lib.hid hown
    have HNE := Lib.hid hne
    have HBM := Lib.hid hbm
    have HBL := Lib.hid hb
    obtain ⟨i0, hi, hi0, hi1, hi2⟩ := info_parts info_int
    have HI := Lib.hid hi
    have HI0 := Lib.hid hi0
    have HI1 := Lib.hid hi1
    have HI2 := Lib.hid hi2
    clear hbm hown hne hb hW1 hi hi0 hi1 hi2
    go_wp2_with fail
    go_loopw [13, 14, 15, 25] (fun _ _ _ iv_ wr => ∃ (k : Nat) (zs : List Int) (q4 : Option Addr) (d4 : Nat), iv_ = .int .i64 k ∧ k ≤ keys.length ∧ zs = (keys.take k).map (sinceOf l) ∧ zs.length ≤ 100000 ∧ Box wr bm #[.int .u32 fp, .string rt, .int .i64 at_, .slice q3 keys.length d3, .slice q4 zs.length d4] 33 ∧ wr.ownsRow W0.heap.size 9 1 (.slice q3 keys.length d3) keys.length (keys.flatMap encS) ∧ wr.ownsRow W0.heap.size 3 1 (.slice q4 zs.length d4) zs.length (zs.flatMap encJ) ∧ ((Value.slice q4 zs.length d4).ownBlock ≠ some bm ∧ ∀ b, (Value.slice q3 keys.length d3).ownBlock = some b → (Value.slice q4 zs.length d4).ownBlock ≠ some b) ∧ Below W0.heap.size W0 wr) (fun _ _ _ iv_ _ => keys.length - (intOf iv_).toNat)
    · exact ⟨0, [], none, 0, rfl, by omega, by simp, by simp, HBM.out, HOK.out, World.ownsRow_nil _ _ _ _, ⟨(fun e => by cases e), (fun b _ e => by cases e)⟩, HBL.out⟩
    obtain ⟨k, zs, q4, d4, rfl, hk, hzs, hzl, hbx, hok, hoz, ⟨hn1', hn2'⟩, hB⟩ := hrel
    have HZS := Lib.hid hzs
    have HBX := Lib.hid hbx
    have HKS := Lib.hid hok
    have HOZ := Lib.hid hoz
    have HN1 := Lib.hid hn1'
    have HN2 := Lib.hid hn2'
    have HB := Lib.hid hB
    clear hzs hok hoz hn1' hn2' HBM HBL HOK
    by_cases hlt : k < keys.length
    · obtain ⟨x, hx⟩ : ∃ x, keys[k]? = some x := ⟨_, List.getElem?_eq_getElem hlt⟩
      obtain ⟨ad, rfl, -, -, hrow⟩ := (H2.out.below hB).at hx
      have x0 := hrow k _ hx 0 _ rfl
      rw [Addr.add_zero', Nat.mul_one] at x0
      have hkk : (k : Int) < (keys.length : Int) := by omega
      have hzk : zs.length = k := by rw [HZS.out, List.length_map, List.length_take]; omega
      have HZK := Lib.hid hzk
      have HX := Lib.hid hx
      have hb1 : Below wr.heap.size wr (wr.alloc (.cells #[.string x] 9)) := (Below.refl _ wr).alloc (Nat.le_refl _) _
      have HIX := Lib.hid (idxA_any ((H1.out.below hB).below hb1) hn1 (Box.new wr #[.string x] 9))
      have HB1 := Lib.hid hb1
      have HBS := Lib.hid hbs
      clear hx hrow hb1 hzk
      go_wp2_with fail
      refine HIX.out.mono ?_
      rintro e w2 ⟨z, rfl, hf, hb⟩
      have hb2 := below_then HB1.out hb
      have HB2 := Lib.hid (HB.out.trans (hb2.mono HB.out.size))
      have HBX2 := Lib.hid (HBX.out.below hb2)
      have HKS2 := Lib.hid (owns_keep HKS.out (fun b e => hb2.block b (HKS.out.lt b e).2))
      have HOZ2 := Lib.hid (owns_keep HOZ.out (fun b e => hb2.block b (HOZ.out.lt b e).2))
      have HL2 := Lib.hid ((H1.out.below hB).below hb2)
      obtain ⟨c0, cf⟩ := HBX2.out.rd
      have hxl := HBX2.out.lt
      clear x0 hb hb2 HIX hbx hB
      rcases hf with ⟨rfl, hsv⟩ | ⟨k2, x2, rfl, hx2, hsv⟩
      · have HSV := Lib.hid hsv
        clear hsv
        go_wp2_with (at_builtin; refine wpList_append_sl encJ_len rfl (.tmp 40) (.tmp 42) 31 rfl W0.heap.size 3 i0 _ 8 Try.underlying31 HI.out HI0.out HI1.out HI2.out rfl (by decide) (v := .slice q4 zs.length d4) (xs := zs) (ys := [sinceOf l x]) (by rfl) (by rfl) (owns_keep HOZ2.out (fun b e => Below.heap_alloc _ _ _ (HOZ2.out.lt b e).2)) (Sl.one (S := fun _ => True) encJ_len (Box.new _ _ _) (by rw [HSV.out]) trivial) (by simp [Value.oneCell']) (by simp only [List.length_cons, List.length_nil]; unfold maxLen; omega) (by simp only [List.length_cons, List.length_nil]; omega) (by have := HB2.out.size; rw [World.size_alloc]; omega) ?_; intro v5 w5 hown5 hk5 hat5; obtain ⟨q5, d5, rfl⟩ := owns_slice hown5; have hk6 := Kept.first ((Below.refl _ w2).alloc (Nat.le_refl _) _) hk5; have hx5 := HBX2.out.kept hk6 HN1.out; obtain ⟨y0, yf⟩ := hx5.rd; have hxl5 := hx5.lt)
        have hfin := msg_round HBX2.out HKS2.out HOZ2.out HN1.out HN2.out HB2.out HBS.out HNE.out hown5 hk5 hat5
        have hle : (zs ++ [sinceOf l x]).length = zs.length + 1 := by simp
        have hz1 : zs.length + 1 ≤ 100000 := by have := HZK.out; omega
        rw [hle] at hfin
        refine ⟨⟨k + 1, zs ++ [sinceOf l x], q5, d5, by simp, by omega, by rw [take_snoc' HX.out, List.map_append, HZS.out]; rfl, by rw [hle]; exact hz1, by rw [hle]; exact hfin⟩, by simp [intOf]; omega⟩
      · obtain ⟨ad2, rfl, -, -, hrow⟩ := HL2.out.at hx2
        obtain ⟨y0', y1, y2, y3, y4⟩ := cells_A hrow hx2
        have HSV := Lib.hid hsv
        have hk2 : (k2 : Int) < (l.length : Int) := by have := (List.getElem?_eq_some_iff.1 hx2).1; omega
        clear hsv hrow hx2 y0' y1 y2 y4
        go_wp2_with (at_builtin; refine wpList_append_sl encJ_len rfl (.tmp 40) (.tmp 42) 31 rfl W0.heap.size 3 i0 _ 8 Try.underlying31 HI.out HI0.out HI1.out HI2.out rfl (by decide) (v := .slice q4 zs.length d4) (xs := zs) (ys := [sinceOf l x]) (by rfl) (by rfl) (owns_keep HOZ2.out (fun b e => Below.heap_alloc _ _ _ (HOZ2.out.lt b e).2)) (Sl.one (S := fun _ => True) encJ_len (Box.new _ _ _) (by rw [HSV.out]) trivial) (by simp [Value.oneCell']) (by simp only [List.length_cons, List.length_nil]; unfold maxLen; omega) (by simp only [List.length_cons, List.length_nil]; omega) (by have := HB2.out.size; rw [World.size_alloc]; omega) ?_; intro v5 w5 hown5 hk5 hat5; obtain ⟨q5, d5, rfl⟩ := owns_slice hown5; have hk6 := Kept.first ((Below.refl _ w2).alloc (Nat.le_refl _) _) hk5; have hx5 := HBX2.out.kept hk6 HN1.out; obtain ⟨y0, yf⟩ := hx5.rd; have hxl5 := hx5.lt)
        have hfin := msg_round HBX2.out HKS2.out HOZ2.out HN1.out HN2.out HB2.out HBS.out HNE.out hown5 hk5 hat5
        have hle : (zs ++ [sinceOf l x]).length = zs.length + 1 := by simp
        have hz1 : zs.length + 1 ≤ 100000 := by have := HZK.out; omega
        rw [hle] at hfin
        refine ⟨⟨k + 1, zs ++ [sinceOf l x], q5, d5, by simp, by omega, by rw [take_snoc' HX.out, List.map_append, HZS.out]; rfl, by rw [hle]; exact hz1, by rw [hle]; exact hfin⟩, by simp [intOf]; omega⟩
    · obtain rfl : k = keys.length := by omega
      have hb10 := (H10.out.below hB).rd
      have hl10 := (H10.out.below hB).lt
      rw [← HBQ.out] at hb10 hl10
      obtain ⟨c10, f10⟩ := hb10
      obtain ⟨c0, cf⟩ := hbx.rd
      have hxl := hbx.lt
      clear hB hbx
      go_wp2_with fail
      rw [List.take_length] at HZS
      have hkf := (((((Kept.refl (fun b => b = bq + 1) wr).setCell ⟨bq + 1, 0, none⟩ (.int .u32 fp) (fun _ => rfl)).setCell ⟨bq + 1, 1, none⟩ (.string rt) (fun _ => rfl)).setCell ⟨bq + 1, 2, none⟩ (.int .i64 at_) (fun _ => rfl)).setCell ⟨bq + 1, 3, none⟩ (.slice q3 keys.length d3) (fun _ => rfl)).setCell ⟨bq + 1, 4, none⟩ (.slice q4 zs.length d4) (fun _ => rfl)
      have h10 := H10.out.below HB.out
      rw [← HBQ.out] at h10
      have hbf : Box (((((wr.setCell ⟨bq + 1, 0, none⟩ (.int .u32 fp)).setCell ⟨bq + 1, 1, none⟩ (.string rt)).setCell ⟨bq + 1, 2, none⟩ (.int .i64 at_)).setCell ⟨bq + 1, 3, none⟩ (.slice q3 keys.length d3)).setCell ⟨bq + 1, 4, none⟩ (.slice q4 zs.length d4)) (bq + 1) #[.int .u32 fp, .string rt, .int .i64 at_, .slice q3 keys.length d3, .slice q4 zs.length d4] 33 := ((((h10.set _).set _).set _).set _).set _
      obtain ⟨WF, hWF⟩ : ∃ WF, ((((wr.setCell ⟨bq + 1, 0, none⟩ (.int .u32 fp)).setCell ⟨bq + 1, 1, none⟩ (.string rt)).setCell ⟨bq + 1, 2, none⟩ (.int .i64 at_)).setCell ⟨bq + 1, 3, none⟩ (.slice q3 keys.length d3)).setCell ⟨bq + 1, 4, none⟩ (.slice q4 zs.length d4) = WF := ⟨_, rfl⟩
      rw [hWF] at hkf hbf ⊢
      obtain ⟨r0, _⟩ := hbf.rd
      have e0 := HS0.out
      have e1 := HBQ.out
      refine bodyPost_ret (v := .agg #[.int .u32 fp, .string rt, .int .i64 at_, .slice q3 keys.length d3, .slice q4 zs.length d4]) ?_ rfl ?_
      · simp [results, Try.results15, go_sem, r0]
      · refine ⟨⟨.slice q3 keys.length d3, .slice q4 zs.length d4, ⟨fp, rt, at_, keys, zs⟩⟩, rfl, ?_, ⟨?_, ?_, HN2.out⟩, ?_⟩
        · show (⟨fp, rt, at_, keys, zs⟩ : Ms) = ⟨fp, rt, at_, keys, keys.map (sinceOf l)⟩
          rw [HZS.out]
        · exact owns_lower (owns_keep HKS.out (fun b e => hkf.block b (HKS.out.lt b e).2 (by have := (HKS.out.lt b e).1; omega))) (by omega)
        · exact owns_lower (owns_keep HOZ.out (fun b e => hkf.block b (HOZ.out.lt b e).2 (by have := (HOZ.out.lt b e).1; omega))) (by omega)
        · exact HB0.out.trans (((HB.out.mono HB0.out.size)).trans (hkf.below (fun b e => by omega) (by have := HB.out.size; omega)))
end Go.Proofs.Ytajflljemfgkiaa
