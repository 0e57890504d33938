/- What is owed and sent: the plain side; (*Box).Pump's closure. -/
import Derived.Test.YtfaafndaelmbfaaOAll
namespace Go.Proofs.Ytfaafndaelmbfaa
open Go.RowKit
attribute [local go_sem] Oper.semAt_some

/-- in how many minutes what was sent t times is sent again -/
def mor (t : Int) : Int := if t = 0 then 1 else if t = 1 then 2 else if t = 2 then 4 else if t = 3 then 8 else 16
def pmW (at_ : Int) (o : Ow) : Ow := ⟨o.m, o.tr + 1, at_ + mor o.tr⟩
def pmX (at_ : Int) (x : Ox) : Ox := ⟨x.m, x.tr + 1, at_ + mor x.tr⟩
theorem pmW_pl (at_ : Int) (o : Ow) : (pmW at_ o).pl = pmX at_ o.pl := rfl
theorem flat_set : ∀ (rs : List Ow) {k j : Nat} {o o' : Ow} {u : Value}, rs[k]? = some o → j < 7 → encO o' = (encO o).set j u → (rs.flatMap encO).set (k * 7 + j) u = (rs.set k o').flatMap encO
  | [], k, j, o, o', u, h, _, _ => by simp at h
  | r :: rs, 0, j, o, o', u, h, hj, he => by
    obtain rfl : r = o := by simpa using h
    rw [List.flatMap_cons, List.set_cons_zero, List.flatMap_cons, he, List.set_append_left _ _ (by rw [encO_len]; omega)]
    congr 2
    omega
  | r :: rs, k + 1, j, o, o', u, h, hj, he => by
    rw [List.flatMap_cons, List.set_cons_succ, List.flatMap_cons, List.set_append_right _ _ (by rw [encO_len]; omega), encO_len, ← flat_set rs (k := k) (by simpa using h) hj he]
    congr 2
    omega
theorem own_put {W : World} {base g n c k j : Nat} {e : TypeId} {rs : List Ow} {o o' : Ow} {u : Value} (h : W.ownsRow base e 7 (.slice (some ⟨g, 0, none⟩) n c) n (rs.flatMap encO)) (hk : rs[k]? = some o) (hj : j < 7) (he : encO o' = (encO o).set j u) :
    (W.setCell ⟨g, k * 7 + j, none⟩ u).ownsRow base e 7 (.slice (some ⟨g, 0, none⟩) n c) n ((rs.set k o').flatMap encO) := by
  have hl : ((rs.set k o').flatMap encO).length = n * 7 := by rw [flat_length encO_len, List.length_set, ← flat_length encO_len]; exact h.1
  rcases h.2 with ⟨h', _⟩ | ⟨g', cap', cur, h', hb, hg, hnc, hcm, hcs, htake⟩
  · cases h'
  · simp only [Value.slice.injEq, Option.some.injEq, Addr.mk.injEq, and_true, true_and] at h'
    obtain ⟨rfl, rfl⟩ := h'
    refine ⟨hl, .inr ⟨g, c, cur.setIfInBounds (k * 7 + j) u, rfl, hb, set_block u hg, hnc, hcm, by rw [Array.size_setIfInBounds]; exact hcs, ?_⟩⟩
    rw [Array.toList_setIfInBounds, List.take_set, htake]
    exact flat_set rs hk hj he
theorem own_fz {W : World} {base g n c : Nat} {e : TypeId} {size : Nat} {xs : List Value} (h : W.ownsRow base e size (.slice (some ⟨g, 0, none⟩) n c) n xs) (i : Nat) : W.frozen? ⟨g, i, none⟩ = false := by
  rcases h.2 with ⟨h', _⟩ | ⟨g', cap', cur, h', hb, hg, _⟩
  · cases h'
  · cases h'
    exact frozen_block hg i
/-- an element's cells -/
theorem own_rd {W : World} {base g n c k : Nat} {e : TypeId} {rs : List Ow} {o : Ow} (h : W.ownsRow base e 7 (.slice (some ⟨g, 0, none⟩) n c) n (rs.flatMap encO)) (hk : rs[k]? = some o) (j : Nat) (u : Value) (hj : (encO o)[j]? = some u) : W.cell? ⟨g, k * 7 + j, none⟩ = some u := by
  have h1 := h.cells rfl (k * 7 + j) u (get_flatMap encO_len hk hj)
  have h2 : (⟨g, 0, none⟩ : Addr).add (k * 7 + j) = ⟨g, k * 7 + j, none⟩ := by
    simp [Addr.add]
    omega
  rwa [h2] at h1
theorem own_cs {W : World} {base g n c k : Nat} {e : TypeId} {rs : List Ow} {o : Ow} (h : W.ownsRow base e 7 (.slice (some ⟨g, 0, none⟩) n c) n (rs.flatMap encO)) (hk : rs[k]? = some o) :
    W.cell? ⟨g, k * 7, none⟩ = some (.int .u32 o.m.m.rule) ∧ W.cell? ⟨g, k * 7 + 1, none⟩ = some (.string o.m.m.route) ∧ W.cell? ⟨g, k * 7 + 2, none⟩ = some (.int .i64 o.m.m.at_) ∧ W.cell? ⟨g, k * 7 + 3, none⟩ = some o.m.kv ∧ W.cell? ⟨g, k * 7 + 4, none⟩ = some o.m.sv ∧ W.cell? ⟨g, k * 7 + 5, none⟩ = some (.int .i64 o.tr) ∧ W.cell? ⟨g, k * 7 + 6, none⟩ = some (.int .i64 o.nx) :=
  ⟨own_rd h hk 0 _ rfl, own_rd h hk 1 _ rfl, own_rd h hk 2 _ rfl, own_rd h hk 3 _ rfl, own_rd h hk 4 _ rfl, own_rd h hk 5 _ rfl, own_rd h hk 6 _ rfl⟩
/-- rows of messages that the call has made -/
structure Rwm (base : Nat) (W : World) (v : Value) (rs : List Mr) : Prop where
  own : W.ownsRow base 31 5 v rs.length (rs.flatMap encM)
  mw : ∀ r ∈ rs, Mw base W r
  ne : ∀ r ∈ rs, ∀ b, v.ownBlock = some b → r.kv.ownBlock ≠ some b ∧ r.sv.ownBlock ≠ some b
theorem Rwm.kept {base : Nat} {F : Nat → Prop} {W W' : World} {v : Value} {rs : List Mr} (h : Rwm base W v rs) (hk : Kept F W W') (hf : ∀ b, base ≤ b → ¬ F b) : Rwm base W' v rs :=
  ⟨owns_keep h.own (fun b e => hk.block b (h.own.lt b e).2 (hf b (h.own.lt b e).1)), fun r hr => (h.mw r hr).kept hk hf, h.ne⟩
theorem Rwm.below {base : Nat} {W W' : World} {v : Value} {rs : List Mr} (h : Rwm base W v rs) (hb : Below W.heap.size W W') : Rwm base W' v rs := h.kept (F := fun _ => False) (kept_of_below hb) (fun _ _ x => x)
theorem Rwm.nil (base : Nat) (W : World) : Rwm base W (.slice none 0 0) [] := ⟨World.ownsRow_nil _ _ _ _, (fun r hr => by cases hr), (fun r hr => by cases hr)⟩
/-- one row more -/
theorem Rwm.snoc {base : Nat} {W W1 W' : World} {v v' : Value} {rs : List Mr} {r : Mr} (h : Rwm base W v rs) (hb : Below W.heap.size W W1) (hr : Mw W.heap.size W1 r) (hbase : base ≤ W.heap.size) {o : Obj} (hown : W'.ownsRow base 31 5 v' (rs ++ [r]).length ((rs ++ [r]).flatMap encM)) (hk : Kept (fun b => v.ownBlock = some b) (W1.alloc o) W') (hat : v'.ownBlock = v.ownBlock ∨ v'.ownBlock = some (W1.alloc o).heap.size) : Rwm base W' v' (rs ++ [r]) := by
  have hs : (W1.alloc o).heap.size = W1.heap.size + 1 := World.size_alloc ..
  have hal : Below W1.heap.size W1 (W1.alloc o) := (Below.refl _ W1).alloc (Nat.le_refl _) _
  have hlt : ∀ x, Mw base W1 x → ∀ b, (x.kv.ownBlock = some b ∨ x.sv.ownBlock = some b) → b < W1.heap.size := fun x hx b e => by
    rcases e with e | e
    · exact (hx.k.lt b e).2
    · exact (hx.s.lt b e).2
  have hr' : Mw base W1 r := hr.lower hbase
  have hrv : ∀ b, v.ownBlock = some b → r.kv.ownBlock ≠ some b ∧ r.sv.ownBlock ≠ some b := fun b e => by
    have := (h.own.lt b e).2
    exact ⟨fun e' => by have := (hr.k.lt b e').1; omega, fun e' => by have := (hr.s.lt b e').1; omega⟩
  have hall : ∀ x ∈ rs ++ [r], Mw base W1 x ∧ ∀ b, v.ownBlock = some b → x.kv.ownBlock ≠ some b ∧ x.sv.ownBlock ≠ some b := fun x hx => by
    rcases List.mem_append.1 hx with hx | hx
    · exact ⟨(h.mw x hx).below hb, h.ne x hx⟩
    · obtain rfl : x = r := by simpa using hx
      exact ⟨hr', hrv⟩
  refine ⟨hown, fun x hx => ?_, fun x hx b e => ?_⟩
  · obtain ⟨h1, h2⟩ := hall x hx
    have h3 := h1.below hal
    exact ⟨owns_keep h3.k (fun b e => hk.block b (h3.k.lt b e).2 (fun e' => (h2 b e').1 e)), owns_keep h3.s (fun b e => hk.block b (h3.s.lt b e).2 (fun e' => (h2 b e').2 e)), h3.ne⟩
  · obtain ⟨h1, h2⟩ := hall x hx
    rcases hat with h4 | h4
    · rw [h4] at e
      exact h2 b e
    · rw [h4] at e
      cases e
      exact ⟨fun e => by have := hlt x h1 _ (.inl e); omega, fun e => by have := hlt x h1 _ (.inr e); omega⟩
theorem exit_gen {K : Act → World → Prop} {Q : Exit → Act → World → Prop} {a : Act} {W : World} (I : World → Prop) (hI : I W) (h : ∀ W', I W' → Exit.then K Q .normal a W') : Exit.then K Q .normal a W := h W hI
/-- what a message owed comes to that is sent -/
def SendTo (g n c bo base : Nat) (rs : List Ow) (k : Nat) (o : Ow) (at_ : Int) (v : Value) (os : List Mr) (w : World) (e : Ending) (w' : World) : Prop :=
  ∃ v' r, e = .returned (.tuple #[]) ∧ r.m = o.m.m ∧ Box w' bo #[v'] 38 ∧ Rwm base w' v' (os ++ [r]) ∧ w'.ownsRow 0 36 7 (.slice (some ⟨g, 0, none⟩) n c) n ((rs.set k (pmW at_ o)).flatMap encO) ∧ Kept (fun b => b = g ∨ b = bo ∨ v.ownBlock = some b) w w'
set_option maxRecDepth 100000 in
set_option maxHeartbeats 2000000 in
theorem send_any {T : Nat → Prop} {g n c bt bo base k : Nat} {rs : List Ow} {o : Ow} {at_ : Int} {v : Value} {os : List Mr} {w : World} (ho : w.ownsRow 0 36 7 (.slice (some ⟨g, 0, none⟩) n c) n (rs.flatMap encO)) (hk : rs[k]? = some o) (hm : Mo T w o.m) (hT : ¬ T g) (hf : Few o.m.m)
    (ht0 : 0 ≤ o.tr) (ht1 : o.tr ≤ 2199023255552) (ha0 : 0 ≤ at_) (ha1 : at_ ≤ 1099511627776) (h1 : Box w bt #[.int .i64 at_] 3) (h2 : Box w bo #[v] 38) (hr : Rwm base w v os) (hol : os.length ≤ 1000) (hg : g < bt) (hb1 : bt < bo) (hb2 : bo < base) (hbs : base ≤ w.heap.size) :
    Calls Try.prog 31 #[.pointer (some ⟨g, k * 7, none⟩), .pointer (some ⟨bt, 0, none⟩), .pointer (some ⟨bo, 0, none⟩)] w (SendTo g n c bo base rs k o at_ v os w) := by
  obtain ⟨p1, k1, rfl⟩ := owns_slice hr.own
  obtain ⟨d, hd⟩ : ∃ d, mor o.tr = d := ⟨_, rfl⟩
  obtain ⟨⟨kv, sv, m⟩, tr, nx⟩ := o
  obtain ⟨q1, d1, e3, -, -⟩ := hm.k.len
  obtain ⟨q2, d2, e4, -, -⟩ := hm.s.len
  simp only at e3 e4 ht0 ht1 hd
  subst e3 e4
  obtain ⟨x0, x1, x2, x3, x4, x5, x6⟩ := own_cs ho hk
  have fz := own_fz ho
  have c1 := h1.rd.1
  have c2 := h2.rd.1
  have HW1 : Hid (wrap64 (tr + 1) = tr + 1) := Lib.hid (IntWalk.wrap64_in _ ⟨by omega, by omega⟩)
  have hgo : g < w.heap.size := by omega
  go_enter Try.func31, Try.ntmps31
  go_wp2_with fail
  refine wp_region_ord [0, 1, 2, 3, 4, 5, 6, 7, 8, 9, 10, 11] (fun w' => Below w.heap.size w w') 11 (by kernel_rfl) (by kernel_rfl) ?_
  have hb0 : Below w.heap.size w w.drew := (Below.refl _ w).drew
  obtain ⟨e, he⟩ : ∃ e, (tr = 0 ∧ e = 0 ∧ d = 1) ∨ (tr = 1 ∧ e = 1 ∧ d = 2) ∨ (tr = 2 ∧ e = 2 ∧ d = 4) ∨ (tr = 3 ∧ e = 3 ∧ d = 8) ∨ (4 ≤ tr ∧ e = 4 ∧ d = 16) := by
    rcases (by omega : tr = 0 ∨ tr = 1 ∨ tr = 2 ∨ tr = 3 ∨ 4 ≤ tr) with h | h | h | h | h
    · exact ⟨0, .inl ⟨h, rfl, by rw [← hd, h]; rfl⟩⟩
    · exact ⟨1, .inr (.inl ⟨h, rfl, by rw [← hd, h]; rfl⟩)⟩
    · exact ⟨2, .inr (.inr (.inl ⟨h, rfl, by rw [← hd, h]; rfl⟩))⟩
    · exact ⟨3, .inr (.inr (.inr (.inl ⟨h, rfl, by rw [← hd, h]; rfl⟩)))⟩
    · exact ⟨4, .inr (.inr (.inr (.inr ⟨h, rfl, by rw [← hd]; unfold mor; rw [if_neg (by omega), if_neg (by omega), if_neg (by omega), if_neg (by omega)]⟩)))⟩
  have HE := Lib.hid he
  have HD := Lib.hid hd
  have hwa : IntKind.i64.wrap (at_ + d) = at_ + d := IntWalk.i64_in _ ⟨by omega, by omega⟩
  have HWA := Lib.hid hwa
  clear hd he hwa
  iterate 6 ((first | (refine wpOrd_free (v := ?_) rfl (by kernel_rfl) (fun _ _ _ h => h) (Or.inl ⟨rfl, fun w' hS => ?_⟩) hb0 ?_; rotate_left; (have c1 := (h1.below hS).rd.1; have x5 := cell_below x5 hS; go_simp <;> with_reducible rfl)) | (refine wpOrd_free (v := undef) rfl (by kernel_rfl) (fun _ _ _ h => h) (Or.inr ⟨rfl, rfl⟩) hb0 ?_)); (simp only [Act.put, List.setIfInBounds_toArray, List.set_cons_zero, List.set_cons_succ]))
  refine wpOrd_free (v := .int .i64 e) rfl (by kernel_rfl) (fun _ _ _ h => h) (Or.inl ⟨rfl, fun w' hS => ?_⟩) hb0 ?_
  · rcases HE.out with ⟨rfl, rfl, rfl⟩ | ⟨rfl, rfl, rfl⟩ | ⟨rfl, rfl, rfl⟩ | ⟨rfl, rfl, rfl⟩ | ⟨h, rfl, rfl⟩ <;> go_simp <;> first | with_reducible rfl | exact IntWalk.i64_in _ ⟨by omega, by omega⟩ | (intros; omega)
  simp only [Act.put, List.setIfInBounds_toArray, List.set_cons_zero, List.set_cons_succ]
  refine wpOrd_free (v := .int .i64 d) rfl (by kernel_rfl) (fun _ _ _ h => h) (Or.inl ⟨rfl, fun w' hS => ?_⟩) hb0 ?_
  · rcases HE.out with ⟨rfl, rfl, rfl⟩ | ⟨rfl, rfl, rfl⟩ | ⟨rfl, rfl, rfl⟩ | ⟨rfl, rfl, rfl⟩ | ⟨h, rfl, rfl⟩ <;> go_simp <;> first | with_reducible rfl | exact IntWalk.i64_in _ ⟨by omega, by omega⟩ | (intros; omega)
  simp only [Act.put, List.setIfInBounds_toArray, List.set_cons_zero, List.set_cons_succ]
  iterate 3 ((first | (refine wpOrd_free (v := ?_) rfl (by kernel_rfl) (fun _ _ _ h => h) (Or.inl ⟨rfl, fun w' hS => ?_⟩) hb0 ?_; rotate_left; (skip; go_simp <;> with_reducible rfl)) | (refine wpOrd_free (v := undef) rfl (by kernel_rfl) (fun _ _ _ h => h) (Or.inr ⟨rfl, rfl⟩) hb0 ?_)); (simp only [Act.put, List.setIfInBounds_toArray, List.set_cons_zero, List.set_cons_succ]))
  refine wpOrd_sole rfl (by kernel_rfl) rfl (fun K hK => ?_)
  go_simp
  refine hK _ _ (.inl rfl) ?_
  clear hK K
  refine ⟨by kernel_rfl, ?_⟩
  rw [HWA.out]
  have hks : k < rs.length := (List.getElem?_eq_some_iff.1 hk).1
  refine exit_gen (fun W => W.ownsRow 0 36 7 (.slice (some ⟨g, 0, none⟩) n c) n ((rs.set k ⟨⟨.slice q1 m.ks.length d1, .slice q2 m.ss.length d2, m⟩, tr, at_ + d⟩).flatMap encO) ∧ Kept (fun b => b = g) w W) ⟨?_, ?_⟩ ?_
  · exact owns_keep (own_put (j := 6) ho hk (by decide) rfl) (fun _ _ => rfl)
  · exact ((Kept.refl (fun b => b = g) w).setCell _ _ (fun _ => rfl)).drew
  rintro W1 ⟨ho1, hk1⟩
  obtain ⟨-, -, -, -, -, y5, -⟩ := own_cs ho1 (List.getElem?_set_self hks)
  have fz1 := own_fz ho1
  have hw1 := HW1.out
  clear x0 x1 x2 x3 x4 x5 x6 fz c2 hb0
  go_wp2_with fail
  refine code_gen (fun W => W.ownsRow 0 36 7 (.slice (some ⟨g, 0, none⟩) n c) n ((rs.set k ⟨⟨.slice q1 m.ks.length d1, .slice q2 m.ss.length d2, m⟩, tr + 1, at_ + d⟩).flatMap encO) ∧ Kept (fun b => b = g) w W) ⟨?_, ?_⟩ ?_
  · have := own_put (j := 5) (u := .int .i64 (tr + 1)) (o' := ⟨⟨.slice q1 m.ks.length d1, .slice q2 m.ss.length d2, m⟩, tr + 1, at_ + d⟩) ho1 (List.getElem?_set_self hks) (by decide) rfl
    rw [List.set_set] at this
    exact this
  · exact hk1.setCell _ _ (fun _ => rfl)
  clear ho1 hk1 y5 fz1 hw1 c1 W1 HW1
  rintro W2 ⟨ho2, hk2⟩
  obtain ⟨y0, y1, y2, y3, y4, -, -⟩ := own_cs ho2 (List.getElem?_set_self hks)
  simp only at y0 y1 y2 y3 y4
  have hm2 := hm.kept hk2 (fun b _ ht e => hT (e ▸ ht))
  have hb2' := h2.kept hk2 (by omega)
  have hr2 := hr.kept hk2 (fun b hb e => by omega)
  have hs2 := hk2.size
  have HM := Lib.hid hm2
  have HX := Lib.hid hb2'
  have HR := Lib.hid hr2
  obtain ⟨i0, hi, hi0, hi1, hi2⟩ := info_parts info_msg
  have HI := Lib.hid hi
  have HI0 := Lib.hid hi0
  have HI1 := Lib.hid hi1
  have HI2 := Lib.hid hi2
  have HOW := Lib.hid ho2
  have HK2 := Lib.hid hk2
  clear hm2 hb2' hr2 hi hi0 hi1 hi2 ho2 hk2 ho hm h2 hr
  refine wp_region_ord [0, 1, 2, 3, 4, 5, 6, 7, 8] (fun w' => Kept (fun b => (Value.slice p1 os.length k1).ownBlock = some b) W2 w') 8 (by kernel_rfl) (by kernel_rfl) ?_
  have hb0 : Kept (fun b => (Value.slice p1 os.length k1).ownBlock = some b) W2 W2.drew := (Kept.refl _ W2).drew
  have HOB : Hid (∀ b, (Value.slice p1 os.length k1).ownBlock = some b → base ≤ b ∧ b < W2.heap.size) := Lib.hid fun b e => HR.out.own.lt b e
  have HNB : Hid (¬ (Value.slice p1 os.length k1).ownBlock = some bo) := Lib.hid fun e => by have := HOB.out _ e; omega
  have HNG : Hid (¬ (Value.slice p1 os.length k1).ownBlock = some g) := Lib.hid fun e => by have := HOB.out _ e; omega
  iterate 5 ((first | (refine wpOrd_free (v := ?_) rfl (by kernel_rfl) (fun _ _ _ h => h) (Or.inl ⟨rfl, fun w' hS => ?_⟩) hb0 ?_; rotate_left; (have z0 := (hS.cell (World.block_lt_of_cell? _ _ y0) HNG.out).trans y0; have z1 := (hS.cell (World.block_lt_of_cell? _ _ y1) HNG.out).trans y1; have z2 := (hS.cell (World.block_lt_of_cell? _ _ y2) HNG.out).trans y2; have z3 := (hS.cell (World.block_lt_of_cell? _ _ y3) HNG.out).trans y3; have z4 := (hS.cell (World.block_lt_of_cell? _ _ y4) HNG.out).trans y4; have c := (HX.out.kept hS HNB.out).rd.1; go_simp <;> with_reducible rfl)) | (refine wpOrd_free (v := undef) rfl (by kernel_rfl) (fun _ _ _ h => h) (Or.inr ⟨rfl, rfl⟩) hb0 ?_)); (simp only [Act.put, List.setIfInBounds_toArray, List.set_cons_zero, List.set_cons_succ]))
  refine wpOrd_sole rfl (by kernel_rfl) rfl (fun K hK => ?_)
  go_simp
  refine (twin_any (x := ⟨.slice q1 m.ks.length d1, .slice q2 m.ss.length d2, m⟩) (HM.out.below (Below.refl _ W2).drew) hf).mono ?_
  rintro e w4 ⟨r1, rfl, hrm, hmw, hb1⟩
  obtain ⟨q3, d3, q4, d4, hr1⟩ := hmw.mo.open
  rw [hrm] at hr1
  subst hr1
  have hb1' : Below W2.heap.size W2 w4 := below_then (Below.refl _ W2).drew hb1
  refine hK _ _ (.inr (kept_of_below hb1')) ?_
  clear hK K hrm
  refine wpOrd_sole rfl (by kernel_rfl) rfl (fun K hK => ?_)
  go_simp
  have hb2 := hb1'.alloc hb1'.size (.cells #[.int .u32 m.rule, .string m.route, .int .i64 m.at_, .slice q3 m.ks.length d3, .slice q4 m.ss.length d4] 31)
  refine hK _ _ (.inr (kept_of_below hb2)) ?_
  clear hK K
  refine wpOrd_sole rfl (by kernel_rfl) rfl (fun K hK => ?_)
  refine wp_append_sl encM_len (.tmp 22) (.tmp 28) 38 (by rfl) base 31 i0 _ 80 Try.underlying38 HI.out HI0.out HI1.out HI2.out (by rfl) (by decide) (v := .slice p1 os.length k1) (xs := os) (ys := [⟨.slice q3 m.ks.length d3, .slice q4 m.ss.length d4, m⟩]) (by rfl) (by rfl) (owns_keep HR.out.own (fun b e => hb2.block b (HR.out.own.lt b e).2)) (Sl.one (S := fun _ => True) encM_len (Box.new _ _ _) rfl trivial) (by simp [Value.oneCell']) (by simp only [List.length_cons, List.length_nil]; unfold maxLen; omega) (by simp only [List.length_cons, List.length_nil]; omega) (by have := hb1'.size; rw [World.size_alloc]; omega) ?_
  intro v2 w5 hown hk3 hat
  have HR5 := HR.out.snoc hb1' (r := ⟨.slice q3 m.ks.length d3, .slice q4 m.ss.length d4, m⟩) hmw (by omega) hown hk3 hat
  obtain ⟨p4, q5, rfl⟩ := owns_slice hown
  have hk2 := Kept.first hb2 hk3
  refine hK _ _ (.inr hk2) ?_
  clear hK K
  simp only [Act.put, List.setIfInBounds_toArray]
  have c := (HX.out.kept hk2 HNB.out).rd.1
  have z := (HX.out.kept hk2 HNB.out).rd.2
  refine wpOrd_sole rfl (by kernel_rfl) rfl (fun K hK => ?_)
  go_simp
  refine hK _ _ (.inl rfl) ?_
  clear hK K
  refine ⟨by kernel_rfl, ?_⟩
  have HBO := (HX.out.kept hk2 HNB.out).set (i := 0) (.slice p4 (os.length + 1) q5)
  have HOW2 := owns_keep HOW.out (fun b e => hk2.block b (HOW.out.lt b e).2 (fun e' => HNG.out (by cases e; exact e')))
  rw [List.length_append] at HR5
  go_end0
  refine ⟨_, ⟨.slice q3 m.ks.length d3, .slice q4 m.ss.length d4, m⟩, rfl, rfl, HBO, HR5.kept (F := fun b => b = bo) ((Kept.refl _ _).setCell _ _ (fun _ => rfl)) (fun b hb e => by omega), ?_, ?_⟩
  · have e1 : (pmW at_ ⟨⟨.slice q1 m.ks.length d1, .slice q2 m.ss.length d2, m⟩, tr, nx⟩) = ⟨⟨.slice q1 m.ks.length d1, .slice q2 m.ss.length d2, m⟩, tr + 1, at_ + d⟩ := by unfold pmW; rw [← HD.out]
    rw [e1]
    exact owns_keep HOW2 (fun b e => Below.heap_setCell _ _ _ _ (by cases e; show g ≠ bo; omega))
  · exact ((HK2.out.mono (fun _ _ e => .inl e)).trans hk2 (fun _ _ e => e) (fun _ _ e => .inr (.inr e))).setCell _ _ (fun _ => .inr (.inl rfl))
end Go.Proofs.Ytfaafndaelmbfaa
