/- DrrRounds' walk -/
import Derived.Test.YthligipgmicgfaaDrrX
import Derived.Deep.DeepCutAuto
namespace Go.Proofs.Ythligipgmicgfaa
open Go.RowKit
attribute [local go_sem] Oper.semAt_some

theorem info_queues : (Try.prog.info? 24).map (fun i => (i.zero, i.size, i.bytes)) = some (some (.pointer none), 1, 8) := by kernel_rfl
theorem info_refs : (Try.prog.info? 41).map (fun i => (i.zero, i.size, i.bytes)) = some (some (.slice none 0 0), 1, 24) := by kernel_rfl
theorem LS.hm6 {w W0 W1 W2 : World} {B : Nat} {vq vm : Value} {qs : List (Nat × List It)} {ms : List (Value × List It)} {o1 o2 : Obj} (h : LS w B vq vm qs ms W0) (k1 : Kept (fun b => vq.ownBlock = some b) (W0.alloc o1) W1) (h2 : Below W1.heap.size W1 W2) :
    (W2.alloc o2).ownsRow w.heap.size 41 1 vm ms.length (ms.flatMap encR) := by
  have s0 : (W0.alloc o1).heap.size = W0.heap.size + 1 := World.size_alloc ..
  have t1 := k1.size
  have t2 := h2.size
  refine owns_keep h.hm (fun b e => ?_)
  have hb := (h.hm.lt b e).2
  exact ((((Below.refl _ W2).alloc (Nat.le_refl _) o2).block b (by omega)).trans (h2.block b (by omega))).trans ((k1.block b (by omega) (fun g => (h.nq b g).2.2 e)).trans (((Below.refl _ W0).alloc (Nat.le_refl _) o1).block b hb))
/-- is something wrong with the deficits? -/
def wrongB (qs : List (Nat × List It)) (ds : List Int) (k : Nat) : Bool := ((qs.length : Int) != (ds.length : Int)) || (ds.take k).any (fun d => !mayB d)
theorem wrong_succ {qs : List (Nat × List It)} {ds : List Int} {k : Nat} {z : Int} (hz : ds[k]? = some z) : wrongB qs ds (k + 1) = (wrongB qs ds k || !mayB z) := by
  unfold wrongB
  rw [take_snoc hz, List.any_append]
  simp [Bool.or_assoc]
theorem sl_map {α β : Type} {S : Nat → Prop} {W : World} {v : Value} {size : Nat} {enc : α → List Value} {enc' : β → List Value} {f : α → β} {xs : List α} (he : ∀ x, enc x = enc' (f x)) (h : Sl S W v size enc xs) : Sl S W v size enc' (xs.map f) := by
  rcases h with ⟨rfl, rfl⟩ | ⟨a, cap, rfl, h1, h2, h3, h4⟩
  · exact .inl ⟨rfl, rfl⟩
  · refine .inr ⟨a, cap, by simp, fun hp => h1 (by simpa using hp), by simpa using h2, h3, fun i x hx j u hu => ?_⟩
    rw [List.getElem?_map] at hx
    obtain ⟨y, hy, rfl⟩ := Option.map_eq_some_iff.1 hx
    exact h4 i y hy j u (by rw [he]; exact hu)
theorem wrong_arg {qs : List (Nat × List It)} {ds : List Int} (h : wrongB qs ds ds.length = true) : ¬ ((qs.map (fun x => qv x.1)).length = ds.length ∧ ds.any (fun d => !mayB d) = false) := by
  intro ⟨h1, h2⟩
  unfold wrongB at h
  rw [List.take_length, h2] at h
  rw [List.length_map] at h1
  simp [h1] at h
theorem wrong_no {qs : List (Nat × List It)} {ds : List Int} (h : wrongB qs ds ds.length = false) : qs.length = ds.length ∧ ds.any (fun d => !mayB d) = false := by
  unfold wrongB at h
  rw [List.take_length, Bool.or_eq_false_iff] at h
  exact ⟨by have := h.1; simp at this; omega, h.2⟩
/-- queues and deficits side by side -/
def mkT (qs : List (Nat × List It)) (ds : List Int) : List Tri := List.zipWith (fun x d => (x.1, x.2, d)) qs ds
theorem mkT_len {qs : List (Nat × List It)} {ds : List Int} (h : qs.length = ds.length) : (mkT qs ds).length = qs.length := by unfold mkT; rw [List.length_zipWith]; omega
theorem mkT_tp : ∀ {qs : List (Nat × List It)} {ds : List Int}, qs.length = ds.length → tp (mkT qs ds) = qs.map Prod.fst
  | [], [], _ => rfl
  | _ :: _, [], h => by simp at h
  | [], _ :: _, h => by simp at h
  | x :: qs, d :: ds, h => by
    have := mkT_tp (qs := qs) (ds := ds) (by simpa using h)
    unfold mkT tp at this ⊢
    rw [List.zipWith_cons_cons, List.map_cons, List.map_cons, this]
theorem mkT_td : ∀ {qs : List (Nat × List It)} {ds : List Int}, qs.length = ds.length → td (mkT qs ds) = ds
  | [], [], _ => rfl
  | _ :: _, [], h => by simp at h
  | [], _ :: _, h => by simp at h
  | x :: qs, d :: ds, h => by
    have := mkT_td (qs := qs) (ds := ds) (by simpa using h)
    unfold mkT td at this ⊢
    rw [List.zipWith_cons_cons, List.map_cons, this]
theorem mkT_get {qs : List (Nat × List It)} {ds : List Int} {j : Nat} {x : Tri} (h : (mkT qs ds)[j]? = some x) : qs[j]? = some (x.1, x.2.1) ∧ ds[j]? = some x.2.2 := by
  unfold mkT at h
  rw [List.getElem?_zipWith] at h
  split at h
  · rename_i a b ha hb
    cases h
    exact ⟨ha, hb⟩
  · cases h
theorem mkT_ri {S : Nat → Prop} {W w : World} {v dv : Value} {qs : List (Nat × List It)} {ds : List Int} (hl : qs.length = ds.length) (hq : ∀ x ∈ qs, QAt S x.1 W x.2) (hr : Sl (fun b => ¬ b ∈ qs.map Prod.fst) W v 1 encP (qs.map (fun x => qv x.1))) (hd : Sl (fun b => b < w.heap.size) W dv 1 encN ds) (hw : ∀ x ∈ qs, w.heap.size ≤ x.1) : RI W S (mkT qs ds) v dv 0 W := by
  refine ⟨fun j x hx => ?_, ?_, ?_, Kept.refl _ _⟩
  · rw [if_neg (by omega)]
    exact hq _ (List.mem_of_getElem? (mkT_get hx).1)
  · rw [mkT_tp hl, List.map_map]
    exact hr.mono (fun b hb s => ⟨s, hb⟩)
  · rw [mkT_tp hl, mkT_td hl]
    exact hd.mono (fun b hb s => ⟨fun hm => by
      obtain ⟨x, hx, rfl⟩ := List.mem_map.1 hm
      have := hw x hx
      omega, hb⟩)
theorem mkT_apart {qs : List (Nat × List It)} {ds : List Int} (hn : (qs.map Prod.fst).Nodup) (k : Nat) : Apart (mkT qs ds) k := by
  intro i j x y hij _ hx hy e
  have h1 := (mkT_get hx).1
  have h2 := (mkT_get hy).1
  have e1 : (qs.map Prod.fst)[i]? = some x.1 := by rw [List.getElem?_map, h1]; rfl
  have e2 : (qs.map Prod.fst)[j]? = some y.1 := by rw [List.getElem?_map, h2]; rfl
  rw [← e, ← e1] at e2
  have hi : i < (qs.map Prod.fst).length := (List.getElem?_eq_some_iff.1 e1).1
  have := (List.getElem?_inj hi hn).1 e2.symm
  omega
/-- what a round left -/
structure RDone (qs : List (Nat × List It)) (ms : List (Value × List It)) (ds : List Int) (vq vm dv vo vl : Value) (W : World) : Prop where
  row : Sl (fun _ => True) W vq 1 encP (qs.map (fun x => qv x.1))
  q : ∀ (k : Nat) (x : Nat × List It) (d : Int), qs[k]? = some x → ds[k]? = some d → ∃ S, QAt S x.1 W (svd x.2 d).2.1
  mrow : Sl (fun _ => True) W vm 1 encR ms
  m : ∀ r ∈ ms, Its (fun _ => True) W r.1 r.2
  drow : Sl (fun _ => True) W dv 1 encN ds
  o : ∃ rows : List (Value × List It), Sl (fun _ => True) W vo 1 encR rows ∧ (∀ r ∈ rows, Its (fun _ => True) W r.1 r.2) ∧ rows.map Prod.snd = (mkT qs ds).map (fun x => (svd x.2.1 x.2.2).1)
  l : Sl (fun _ => True) W vl 1 encN ((mkT qs ds).map (fun x => (svd x.2.1 x.2.2).2.2.1))
theorem RDone.below {qs : List (Nat × List It)} {ms : List (Value × List It)} {ds : List Int} {vq vm dv vo vl : Value} {W W' : World} (h : RDone qs ms ds vq vm dv vo vl W) (hb : Below W.heap.size W W') : RDone qs ms ds vq vm dv vo vl W' :=
  ⟨h.row.below hb, fun k x d hx hd => by
    obtain ⟨S, hS⟩ := h.q k x d hx hd
    exact ⟨S, hS.below hb⟩, h.mrow.below hb, fun r hr => (h.m r hr).below hb, h.drow.below hb, by
    obtain ⟨rows, h1, h2, h3⟩ := h.o
    exact ⟨rows, h1.below hb, fun r hr => (h2 r hr).below hb, h3⟩, h.l.below hb⟩
theorem mkT_at {qs : List (Nat × List It)} {ds : List Int} {k : Nat} {x : Nat × List It} {d : Int} (hx : qs[k]? = some x) (hd : ds[k]? = some d) : (mkT qs ds)[k]? = some (x.1, x.2, d) := by
  unfold mkT
  rw [List.getElem?_zipWith, hx, hd]
theorem rp_of {w W W' : World} {B : Nat} {vq vm dv vo vl : Value} {qs : List (Nat × List It)} {ms : List (Value × List It)} {ds : List Int} {rows : List (Value × List It)} {S : Nat → Prop} (h : LS w B vq vm qs ms W) (hl : qs.length = ds.length)
    (hO : RO W (mkT qs ds) vo vl (mkT qs ds).length rows W') (hI : RI W S (mkT qs ds) vq dv (mkT qs ds).length W') : RDone qs ms ds vq vm dv vo vl W' ∧ (∃ po co, vo = .slice po qs.length co) ∧ (∃ pl cl, vl = .slice pl qs.length cl) ∧ Below w.heap.size w W' := by
  have hT := mkT_len hl
  have htp := mkT_tp hl
  have hrow := hI.row
  have hdrow := hI.drow
  rw [htp] at hrow hdrow
  rw [mkT_td hl] at hdrow
  rw [List.map_map] at hrow
  have hkp := hI.kp
  rw [htp] at hkp
  have hlr : rows.length = qs.length := by
    have := congrArg List.length hO.map
    rw [List.length_map, List.length_map, List.length_take] at this
    omega
  have hll : (((mkT qs ds).take (mkT qs ds).length).map (fun x => (svd x.2.1 x.2.2).2.2.1)).length = qs.length := by
    rw [List.take_length, List.length_map]; exact hT
  have hhl := hO.hl
  refine ⟨⟨hrow.mono (fun _ _ _ => trivial), fun k x d hx hd => ?_, ?_, fun r hr => ?_, hdrow.mono (fun _ _ _ => trivial), ⟨rows, (Sl.owned encR_len hO.ho).mono (fun _ _ _ => trivial), fun r hr => (hO.its r hr).mono (fun _ _ _ => trivial), ?_⟩, ?_⟩, ?_, ?_, ?_⟩
  · have h1 := hI.q k _ (mkT_at hx hd)
    rw [if_pos (by have := (List.getElem?_eq_some_iff.1 hx).1; omega)] at h1
    exact ⟨_, h1⟩
  · exact ((Sl.owned encR_len h.hm).kept hkp (fun b _ e g => (h.nm b e).2 g)).mono (fun _ _ _ => trivial)
  · exact ((h.m r hr).kept hkp (fun b _ s g => s.2 (.inl g))).mono (fun _ _ _ => trivial)
  · have := hO.map
    rwa [List.take_length] at this
  · have := (Sl.owned encN_len hhl).mono (T := fun _ => True) (fun _ _ _ => trivial)
    rwa [List.take_length] at this
  · obtain ⟨p, c, e⟩ := owns_slice hO.ho
    exact ⟨p, c, by rw [e, hlr]⟩
  · obtain ⟨p, c, e⟩ := owns_slice hhl
    exact ⟨p, c, by rw [e, hll]⟩
  · exact h.b.trans (hkp.below (fun b g => by
      obtain ⟨x, hx, rfl⟩ := List.mem_map.1 g
      exact (h.ok x hx).2.2.1) h.b.size)
theorem pushL_ok {q : List It} {it : It} (hf : Fair q) (hn : q.length ≤ 8) : Fair (pushL q it) ∧ (pushL q it).length ≤ 8 := by
  unfold pushL
  split
  · rename_i h1
    have h2 : q.length < 8 := by simp at h1; exact h1.2
    refine ⟨fun x hx => ?_, by simp; omega⟩
    rcases List.mem_append.1 hx with hx | hx
    · exact hf x hx
    · obtain rfl : x = it := by simpa using hx
      unfold mayCost at h1
      simp at h1
      exact h1.1
  · exact ⟨hf, hn⟩
theorem nodup_inj {qs : List (Nat × List It)} (hn : (qs.map Prod.fst).Nodup) : ∀ x ∈ qs, ∀ y ∈ qs, x.1 = y.1 → x = y := by
  intro x hx y hy e
  obtain ⟨i, hi⟩ := List.getElem?_of_mem hx
  obtain ⟨j, hj⟩ := List.getElem?_of_mem hy
  have e1 : (qs.map Prod.fst)[i]? = some x.1 := by rw [List.getElem?_map, hi]; rfl
  have e2 : (qs.map Prod.fst)[j]? = some y.1 := by rw [List.getElem?_map, hj]; rfl
  rw [← e, ← e1] at e2
  have hl : i < (qs.map Prod.fst).length := (List.getElem?_eq_some_iff.1 e1).1
  have := (List.getElem?_inj hl hn).1 e2.symm
  subst this
  rw [hi] at hj
  exact Option.some.inj hj
theorem flat_set {qs : List (Nat × List It)} {x : Nat × List It} : ∀ {k : Nat}, (qs.flatMap encQ).set k (qv x.1) = (qs.set k x).flatMap encQ := by
  have h : ∀ l : List (Nat × List It), l.flatMap encQ = l.map (fun y => qv y.1) := fun l => by
    induction l with
    | nil => rfl
    | cons a l ih => rw [List.flatMap_cons, ih]; rfl
  intro k
  rw [h, h, List.map_set]
theorem mem_set_or {qs : List (Nat × List It)} {x0 : Nat × List It} {k : Nat} (h0 : x0 ∈ qs) : ∀ x ∈ qs.set k x0, x ∈ qs := fun x hx => by
  rcases List.mem_or_eq_of_mem_set hx with h | h
  · exact h
  · subst h; exact h0
/-- one queue twice: the round says so -/
theorem round_twice {w W : World} {B g cq k1 : Nat} {vm dv : Value} {qs : List (Nat × List It)} {ms : List (Value × List It)} {ds : List Int} {x0 : Nat × List It} (h : LS w B (.slice (some ⟨g, 0, none⟩) qs.length cq) vm qs ms W) (hd : Sl (fun _ => True) w dv 1 encN ds) (hk : qs.length = k1 + 1) (hk1 : 0 < k1) (h0 : qs[0]? = some x0) (hn : qs.length ≤ 6) :
    Calls Try.prog 34 #[.slice (some ⟨g, 0, none⟩) qs.length cq, dv] (W.setCell ⟨g, k1, none⟩ (qv x0.1)) (RoundNo 2 (fun W2 => Below w.heap.size w W2)) := by
  obtain ⟨hst, hgr⟩ := h.hq.stored k1 (qv x0.1)
  rw [flat_set] at hst
  generalize W.setCell ⟨g, k1, none⟩ (qv x0.1) = W' at hst hgr
  have hm0 := List.mem_of_getElem? h0
  have hin := mem_set_or (k := k1) hm0
  have hlen : (qs.set k1 x0).length = qs.length := List.length_set
  have hkp : Kept (fun b => Value.ownBlock (.slice (some ⟨g, 0, none⟩) qs.length cq) = some b) W W' := (Kept.refl _ W).grown hgr (fun k e _ => e)
  rw [← hlen] at hst
  have hg := h.nq g rfl
  have hgw : w.heap.size ≤ g := (h.hq.lt g rfl).1
  have hb : Below w.heap.size w W' := h.b.trans (hkp.below (fun b e => by cases e; exact hgw) h.b.size)
  have hrow := sl_map (enc' := encP) (f := fun x : Nat × List It => qv x.1) (fun _ => rfl) (Sl.owned encQ_len hst)
  rw [hlen] at hrow
  have hdw : Sl (fun b => b < w.heap.size) W' dv 1 encN ds := (hd.mono (fun b hb _ => hb)).below hb
  by_cases hwd : (qs.set k1 x0).length = ds.length ∧ ds.any (fun d => !mayB d) = false
  · obtain ⟨hqd, hbad⟩ := hwd
    have hfst : ∀ b, b ∈ (qs.set k1 x0).map Prod.fst → b ∈ qs.map Prod.fst := fun b hb => by
      obtain ⟨x, hx, rfl⟩ := List.mem_map.1 hb
      exact List.mem_map_of_mem (hin x hx)
    have hRI : RI W' (fun b => b < B ∧ ¬ Mut qs (.slice (some ⟨g, 0, none⟩) qs.length cq) vm b) (mkT (qs.set k1 x0) ds) (.slice (some ⟨g, 0, none⟩) qs.length cq) dv 0 W' :=
      mkT_ri (w := w) hqd (fun x hx => (h.q x (hin x hx)).kept hkp (fun b _ s e => s.2 (.inr (.inl e))) (fun e => by
          have h1 := (h.nq _ e).2.1
          exact h1 (List.mem_map_of_mem (hin x hx)))) (hrow.mono (fun b _ e hm => by
          have h1 := (h.nq b e).2.1
          exact h1 (hfst b hm))) hdw (fun x hx => (h.ok x (hin x hx)).2.2.1)
    refine (round_any hRI (fun x hx s => s.2 (.inl (by
        have : x.1 ∈ tp (mkT (qs.set k1 x0) ds) := List.mem_map_of_mem hx
        rw [mkT_tp hqd] at this
        exact hfst _ this))) (fun x hx y hy e => by
        obtain ⟨i, hi⟩ := List.getElem?_of_mem hx
        obtain ⟨j, hj⟩ := List.getElem?_of_mem hy
        have := nodup_inj h.nd _ (hin _ (List.mem_of_getElem? (mkT_get hi).1)) _ (hin _ (List.mem_of_getElem? (mkT_get hj).1)) e
        exact congrArg Prod.snd this) (by rw [mkT_td hqd]; exact hbad) (by rw [mkT_len hqd]; omega) (fun x hx => by
        obtain ⟨j, hj⟩ := List.getElem?_of_mem hx
        have := h.ok _ (hin _ (List.mem_of_getElem? (mkT_get hj).1))
        exact ⟨this.1, this.2.1⟩)).mono ?_
    rintro e w2 (⟨_, he, hI⟩ | ⟨hA, _⟩)
    · refine ⟨he, ?_⟩
      have hkp2 := hI.kp
      rw [mkT_tp hqd] at hkp2
      exact hb.trans (hkp2.below (fun b e => by
        obtain ⟨x, hx, rfl⟩ := List.mem_map.1 e
        exact (h.ok x (hin x hx)).2.2.1) hb.size)
    · exfalso
      have ha : (qs.set k1 x0)[0]? = some x0 := by rw [List.getElem?_set_ne (by omega)]; exact h0
      have hb2 : (qs.set k1 x0)[k1]? = some x0 := by rw [List.getElem?_set_self (by omega)]
      obtain ⟨d0, hd0⟩ : ∃ z, ds[0]? = some z := ⟨_, List.getElem?_eq_getElem (by omega)⟩
      obtain ⟨d1, hd1⟩ : ∃ z, ds[k1]? = some z := ⟨_, List.getElem?_eq_getElem (by omega)⟩
      exact hA 0 k1 _ _ hk1 (by rw [mkT_len hqd]; omega) (mkT_at ha hd0) (mkT_at hb2 hd1) rfl
  · refine (round_arg hrow hdw (by rwa [List.length_map])).mono ?_
    rintro e w2 ⟨he, rfl⟩
    exact ⟨he, hb⟩
set_option maxRecDepth 100000 in
set_option maxHeartbeats 1000000 in
theorem rounds_walk {v dv : Value} {ls : List (Value × List (Value × It))} {ds : List Int} {tw : Bool} {w : World} (h : Sl (fun _ => True) w v 1 encS ls) (hr : ∀ x ∈ ls, RowO w x) (hd : Sl (fun _ => True) w dv 1 encN ds) (hn : ls.length ≤ 6) (hdn : ds.length ≤ 10) :
    Calls Try.prog 11 #[v, dv, .bool tw] w (Tells (.bool true) w) := by
  obtain ⟨p, c, rfl, _, _⟩ := h.len
  obtain ⟨p2, c2, rfl, _, _⟩ := hd.len
  have HV := Lib.hid h
  have HR := Lib.hid hr
  have HD := Lib.hid hd
  obtain ⟨i0, hj, hj0, hj1, hj2⟩ := info_parts info_queues
  obtain ⟨i1, hi', hi0', hi1', hi2'⟩ := info_parts info_refs
  have J := Lib.hid hj
  have J0 := Lib.hid hj0
  have J1 := Lib.hid hj1
  have J2 := Lib.hid hj2
  have N := Lib.hid hi'
  have N0 := Lib.hid hi0'
  have N1 := Lib.hid hi1'
  have N2 := Lib.hid hi2'
  clear h hr hd hj hj0 hj1 hj2 hi' hi0' hi1' hi2'
  go_enter Try.func11, Try.ntmps11
  go_wp2_with fail
  go_loopw [7, 8, 9] (fun vq vm iv_ wr => ∃ (k B : Nat) (qs : List (Nat × List It)) (ms : List (Value × List It)), iv_ = .int .i64 k ∧ k ≤ ls.length ∧ qs.length = k ∧ LS w B vq vm qs ms wr) (fun _ _ iv_ _ => ls.length - (intOf iv_).toNat)
  · exact ⟨0, _, [], [], rfl, by omega, rfl, LS.start w⟩
  obtain ⟨k, B, qs, ms, rfl, hk, hql, hL⟩ := hrel
  have HL := Lib.hid hL
  have HQL := Lib.hid hql
  clear hL hql
  by_cases hlt : k < ls.length
  · obtain ⟨x, hx⟩ : ∃ x, ls[k]? = some x := ⟨_, List.getElem?_eq_getElem hlt⟩
    have hrx := HR.out x (List.mem_of_getElem? hx)
    obtain ⟨a, rfl, _, _, hM⟩ := HV.out.at hx
    have hz := hM k x hx 0 _ rfl
    rw [Nat.mul_one, Addr.add_zero'] at hz
    obtain ⟨p3, c3, hx1, _, _⟩ := hrx.1.len
    rw [hx1] at hz
    have HZ := Lib.hid hz
    have hz0 := cell_below hz HL.out.b
    clear hz
    have HRX := Lib.hid hrx
    have HX1 := Lib.hid hx1
    have hkk : (k : Int) < (ls.length : Int) := by omega
    clear hM hrx hx1
    by_cases hx20 : x.2.length ≤ 20
    · have hx20' : ¬ (20 : Int) < (x.2.length : Int) := by omega
      go_wp2_with fail
      refine (new_any _).mono ?_
      rintro e w1 ⟨rfl, hb, hq⟩
      obtain ⟨q, hq0⟩ : ∃ q, q = wr.heap.size := ⟨_, rfl⟩
      rw [← hq0] at hq ⊢
      have hBq : B ≤ q := by have := HL.out.lt; omega
      have hq2 : q < w1.heap.size := hq.lt
      have HQ1 : Hid (QAt (fun b => B ≤ b ∧ b ≠ q) q w1 []) := Lib.hid (by
        obtain ⟨vv, h1, h2, _⟩ := hq
        refine ⟨vv, h1, ?_, fun h => h.2 rfl⟩
        rcases h2 with h2 | ⟨a', cap, rs, e1, e2, e3, e4⟩
        · exact .inl h2
        · refine .inr ⟨a', cap, rs, e1, e2, e3, e4.map, fun hp => by simp at hp, e4.row, fun r hr => ?_⟩
          have := e4.len
          have : rs = [] := List.eq_nil_of_length_eq_zero (by simpa using this)
          subst this; cases hr)
      have HL1 := Lib.hid (HL.out.below hb)
      have hwB := HL.out.lb
      clear hb hq hq0 HL
      go_wp2_with fail
      go_loopw [11] (fun jv w2 => ∃ (m : Nat) (ys : List It), jv = .int .i64 m ∧ m ≤ x.2.length ∧ Fair ys ∧ ys.length ≤ 8 ∧ QAt (fun b => B ≤ b ∧ b ≠ q) q w2 ys ∧ LS w B u7 u8 qs ms w2) (fun jv _ => x.2.length - (intOf jv).toNat)
      · exact ⟨0, [], rfl, by omega, (fun y hy => by cases hy), by simp, HQ1.out, HL1.out⟩
      obtain ⟨m, ys, rfl, hm, hf, hy8, hq, hL⟩ := hrel
      have HQ2 := Lib.hid hq
      have HL2 := Lib.hid hL
      have HF := Lib.hid hf
      have hq2 := hq.lt
      clear hq hL hf HQ1 HL1
      have hz1 := cell_below HZ.out HL2.out.b
      by_cases hml : m < x.2.length
      · obtain ⟨r, hr⟩ : ∃ r, x.2[m]? = some r := ⟨_, List.getElem?_eq_getElem hml⟩
        have hro := HRX.out.1.below HL2.out.b
        rw [HX1.out] at hro
        obtain ⟨a3, rfl, _, _, hM3⟩ := hro.at hr
        have y0 := hM3 m r hr 0 _ rfl
        have y1 : wr.cell? ⟨(a3.add (m * 4)).block, (a3.add (m * 4)).off + 1, none⟩ = some (.int .i64 r.2.at_) := hM3 m r hr 1 _ rfl
        have y2 : wr.cell? ⟨(a3.add (m * 4)).block, (a3.add (m * 4)).off + 2, none⟩ = some (.int .i64 r.2.vl) := hM3 m r hr 2 _ rfl
        have y3 : wr.cell? ⟨(a3.add (m * 4)).block, (a3.add (m * 4)).off + 3, none⟩ = some (.int .i64 r.2.cost) := hM3 m r hr 3 _ rfl
        rw [Addr.add_zero'] at y0
        have hlo := (HRX.out.2 r (List.mem_of_getElem? hr)).1
        obtain ⟨p4, c4, hr1, _, _⟩ := hlo.len
        rw [hr1] at y0 hlo
        have HLO := Lib.hid hlo
        have hmm : (m : Int) < (x.2.length : Int) := by omega
        clear hM3 hro hlo hr hr1
        by_cases h50 : r.2.ls.length ≤ 50
        · have h50' : ¬ (50 : Int) < (r.2.ls.length : Int) := by omega
          have HLB : Hid (Lb (fun _ => True) wr (.slice p4 r.2.ls.length c4) r.2.ls) := Lib.hid ⟨HLO.out.below HL2.out.b, by omega⟩
          go_wp2_with fail
          refine (push_any (x := r.2) HQ2.out HLB.out (fun b hb => by have := HL2.out.lt; omega)).mono ?_
          rintro e w3 ⟨rfl, hq, hkp⟩
          have HQ3 := Lib.hid hq
          have HL3 := Lib.hid (HL2.out.keep hkp (fun b e => by omega))
          have HPL := Lib.hid (pushL_ok (it := r.2) HF.out hy8)
          clear hq hkp HQ2 HL2 y0 y1 y2 y3 hz1
          go_wp2_with fail
          exact ⟨⟨m + 1, _, by simp, by omega, HPL.out.1, HPL.out.2, HQ3.out, HL3.out⟩, by simp [intOf]; omega⟩
        · have h50' : (50 : Int) < (r.2.ls.length : Int) := by omega
          go_wp2_with fail
          go_ret
          exact ⟨rfl, HL2.out.b⟩
      · obtain rfl : m = x.2.length := by omega
        have hqs6 : qs.length ≤ 6 := by have := HQL.out; omega
        have hms6 : ms.length ≤ 6 := by have := congrArg List.length HL2.out.mm; rw [List.length_map, List.length_map] at this; omega
        have HL2a := Lib.hid (HL2.out.below ((Below.refl _ wr).alloc (Nat.le_refl _) (.cells #[qv q] 24)))
        have hws := HL2.out.b.size
        go_wp2_with (at_builtin; refine wpList_append_sl encQ_len rfl (.tmp 72) (.tmp 74) 56 rfl w.heap.size 24 i0 _ 8 Try.underlying56 J.out J0.out J1.out J2.out rfl (by decide) (v := u7) (xs := qs) (ys := [(q, ys)]) (by rfl) (by rfl) HL2a.out.hq (Sl.one (S := fun _ => True) encQ_len (Box.new _ _ _) rfl trivial) (by intro r hr u hu; simp at hr; subst hr; simp at hu; subst hu; rfl) (by simp only [List.length_cons, List.length_nil]; unfold maxLen; omega) (by simp only [List.length_cons, List.length_nil]; omega) (by rw [World.size_alloc]; omega) ?_; intro v6 w6 hown6 hk6 hat6)
        have O6 := Lib.hid hown6
        have K6 := Lib.hid hk6
        have A6 := Lib.hid hat6
        have hs6 := hk6.size
        rw [World.size_alloc] at hs6
        have HQ6 := Lib.hid ((HQ2.out.below ((Below.refl _ wr).alloc (Nat.le_refl _) (.cells #[qv q] 24))).kept hk6 (fun b _ s g => by have := (HL2.out.nq b g).1; have := s.1; omega) (fun g => by have := (HL2.out.nq _ g).1; omega))
        clear hown6 hk6 hat6 HL2a
        refine (all_any HQ6.out (by omega)).mono ?_
        rintro e w7 ⟨v7, rs7, rfl, h7, hb7⟩
        obtain ⟨p7, c7, rfl⟩ := h7.all.slice
        have HA7 := Lib.hid h7.all
        have HB7 := Lib.hid hb7
        have hs7 := hb7.size
        clear h7 hb7
        go_wp2_with fail
        refine (Twins_any HA7.out (by omega)).mono ?_
        rintro e w8 ⟨v8, rs8, rfl, h8, hb8⟩
        obtain ⟨p8, c8, rfl⟩ := h8.all.slice
        have HB8 := Lib.hid (below_then HB7.out hb8)
        have HT8 : Hid (Its (fun b => w6.heap.size ≤ b) w8 (.slice p8 ys.length c8) ys) := Lib.hid (h8.all.mono (fun b _ s => by omega))
        have hs8 := hb8.size
        clear h8 hb8 HA7 HB7
        go_wp2_with (at_builtin; refine wpList_append_sl encR_len rfl (.tmp 76) (.tmp 80) 74 rfl w.heap.size 41 i1 _ 24 Try.underlying74 N.out N0.out N1.out N2.out rfl (by decide) (v := u8) (xs := ms) (ys := [(.slice p8 ys.length c8, ys)]) (by rfl) (by rfl) (HL2.out.hm6 K6.out HB8.out) (Sl.one (S := fun _ => True) encR_len (Box.new _ _ _) rfl trivial) (by intro r hr u hu; simp at hr; subst hr; simp at hu; subst hu; rfl) (by simp only [List.length_cons, List.length_nil]; unfold maxLen; omega) (by simp only [List.length_cons, List.length_nil]; omega) (by rw [World.size_alloc]; omega) ?_; intro v9 w9 hown9 hk9 hat9)
        exact ⟨⟨k + 1, _, _, _, by simp, by omega, by simp [HQL.out], HL2.out.more hBq HQ2.out HF.out hy8 O6.out K6.out A6.out HB8.out HT8.out hown9 hk9 hat9⟩, by simp [intOf]; omega⟩
    · have hx20' : (20 : Int) < (x.2.length : Int) := by omega
      go_wp2_with fail
      go_ret
      exact ⟨rfl, HL.out.b⟩
  · obtain rfl : k = ls.length := by omega
    have hqs6 : qs.length ≤ 6 := by have := HQL.out; omega
    have hml := congrArg List.length HL.out.mm
    rw [List.length_map, List.length_map] at hml
    have HML := Lib.hid hml
    obtain ⟨pq, cq, rfl⟩ := owns_slice HL.out.hq
    obtain ⟨pm, cm, rfl⟩ := owns_slice HL.out.hm
    clear hml HR HV HQL
    go_wp2_with fail
    go_loop [12, 13] (fun wv iv_ => ∃ k : Nat, iv_ = .int .i64 k ∧ k ≤ ds.length ∧ wv = .bool (wrongB qs ds k)) (fun _ iv_ => ds.length - (intOf iv_).toNat)
    · exact ⟨0, rfl, by omega, by unfold wrongB; simp⟩
    obtain ⟨k, rfl, hk2, rfl⟩ := hrel
    by_cases hlt2 : k < ds.length
    · obtain ⟨z, hz⟩ : ∃ z, ds[k]? = some z := ⟨_, List.getElem?_eq_getElem hlt2⟩
      obtain ⟨a, rfl, _, _, hM⟩ := (HD.out.below HL.out.b).at hz
      have hz0 := hM k z hz 0 _ rfl
      rw [Nat.mul_one, Addr.add_zero'] at hz0
      have hkk : (k : Int) < (ds.length : Int) := by omega
      have HWS := Lib.hid (wrong_succ (qs := qs) hz)
      clear hM hz
      cases hwb : wrongB qs ds k with
      | true =>
        have HWB := Lib.hid hwb
        clear hwb
        go_wp2_with fail
        exact ⟨⟨k + 1, by simp, by omega, by rw [HWS.out, HWB.out]; rfl⟩, by simp [intOf]; omega⟩
      | false =>
        have HWB := Lib.hid hwb
        clear hwb
        by_cases h0 : 0 ≤ z
        · by_cases h1 : z ≤ 256
          · go_wp2_with fail
            exact ⟨⟨k + 1, by simp, by omega, by rw [HWS.out, HWB.out, show mayB z = true from by unfold mayB; simp [h0, h1]]; simp <;> omega⟩, by simp [intOf]; omega⟩
          · go_wp2_with fail
            exact ⟨⟨k + 1, by simp, by omega, by rw [HWS.out, HWB.out, show mayB z = false from by unfold mayB; simp [h1]]; simp <;> omega⟩, by simp [intOf]; omega⟩
        · go_wp2_with fail
          exact ⟨⟨k + 1, by simp, by omega, by rw [HWS.out, HWB.out, show mayB z = false from by unfold mayB; simp [h0]]; simp <;> omega⟩, by simp [intOf]; omega⟩
    · obtain rfl : k = ds.length := by omega
      have HRW := Lib.hid (sl_map (enc' := encP) (f := fun x : Nat × List It => qv x.1) (fun _ => rfl) (Sl.owned encQ_len HL.out.hq))
      have HMW := Lib.hid (Sl.owned encR_len HL.out.hm)
      have HDW := Lib.hid (HD.out.below HL.out.b)
      by_cases ht : tw = true ∧ 1 < qs.length
      · obtain ⟨rfl, h1q⟩ := ht
        have hq1 : (1 : Int) < (qs.length : Int) := by omega
        obtain ⟨k1, hk1⟩ : ∃ k1, qs.length = k1 + 1 := ⟨qs.length - 1, by omega⟩
        obtain ⟨x0, hx0⟩ : ∃ x, qs[0]? = some x := ⟨_, List.getElem?_eq_getElem (by omega)⟩
        obtain ⟨g, rfl⟩ : ∃ g, pq = some ⟨g, 0, none⟩ := by
          rcases HL.out.hq.2 with ⟨_, h⟩ | ⟨g, cap, cur, h, _⟩
          · omega
          · exact ⟨g, by cases h; rfl⟩
        have hRT := Lib.hid (round_twice HL.out HD.out hk1 (by omega) hx0 hqs6)
        have hw1 : IntKind.i64.wrap ((qs.length : Int) - 1) = (k1 : Int) := by rw [IntWalk.i64_in _ ⟨by omega, by omega⟩]; omega
        have hkk1 : (k1 : Int) < (qs.length : Int) := by omega
        have e0 : (qs.flatMap encQ)[0]? = some (qv x0.1) := by
          rcases qs with _ | ⟨a, l⟩
          · simp at hx0
          · simp at hx0; subst hx0; rfl
        obtain ⟨uo, huo⟩ : ∃ u, (qs.flatMap encQ)[k1]? = some u := ⟨_, List.getElem?_eq_getElem (by rw [HL.out.hq.1]; omega)⟩
        have c0 : wr.cell? ⟨g, 0, none⟩ = some (qv x0.1) := (HL.out.hq.cellAt 0 (by omega)).trans e0
        have c1 : wr.cell? ⟨g, k1, none⟩ = some uo := (HL.out.hq.cellAt k1 (by omega)).trans huo
        have f1 := HL.out.hq.frozenAt k1
        have HBL := Lib.hid HL.out.b
        clear hk1 hx0 e0 huo HL HRW HMW HDW
        go_wp2_with fail
        refine hRT.out.mono ?_
        rintro e w2 ⟨rfl, hb2⟩
        have HB2 := Lib.hid hb2
        clear hRT hb2 c0 c1 f1
        go_wp2_with fail
        go_loopw [17] (fun iv_ w3 => iv_ = .int .i64 0 ∧ w3 = w2) (fun _ _ => 0)
        · exact ⟨rfl, rfl⟩
        obtain ⟨rfl, rfl⟩ := hrel
        go_wp2_with fail
        refine (awake21_any _).mono ?_
        rintro e w9 ⟨rfl, hb⟩
        have HB9 := Lib.hid (below_then HB2.out hb)
        clear hb
        go_wp2_with fail
        go_ret
        exact ⟨rfl, HB9.out⟩
      · cases hwd : wrongB qs ds ds.length with
        | true =>
          have HWD := Lib.hid (wrong_arg hwd)
          clear hwd
          cases tw with
          | true =>
            have hq1 : ¬ (1 : Int) < (qs.length : Int) := fun h => ht ⟨rfl, by omega⟩
            go_wp2_with fail
            refine (round_arg HRW.out HDW.out HWD.out).mono ?_
            rintro e w2 ⟨rfl, rfl⟩
            go_wp2_with fail
            go_loopw [17] (fun iv_ w3 => iv_ = .int .i64 0 ∧ w3 = w2) (fun _ _ => 0)
            · exact ⟨rfl, rfl⟩
            obtain ⟨rfl, rfl⟩ := hrel
            go_wp2_with fail
            all_goals
              refine (awake21_any _).mono ?_
              rintro e w9 ⟨rfl, hb⟩
              have HB9 := Lib.hid (below_then HL.out.b hb)
              clear hb
              go_wp2_with fail
              go_ret
              exact ⟨rfl, HB9.out⟩
          | false =>
            go_wp2_with fail
            refine (round_arg HRW.out HDW.out HWD.out).mono ?_
            rintro e w2 ⟨rfl, rfl⟩
            go_wp2_with fail
            go_loopw [17] (fun iv_ w3 => ∃ k : Nat, iv_ = .int .i64 k ∧ k ≤ qs.length ∧ LS w B (.slice pq qs.length cq) (.slice pm ms.length cm) qs ms w3) (fun iv_ _ => qs.length - (intOf iv_).toNat)
            · exact ⟨0, rfl, by omega, HL.out⟩
            obtain ⟨k, rfl, hk3, hL3⟩ := hrel
            have HL3 := Lib.hid hL3
            clear hL3
            by_cases hlt3 : k < qs.length
            · have hkk3 : (k : Int) < (qs.length : Int) := by omega
              obtain ⟨x, hx⟩ : ∃ x, qs[k]? = some x := ⟨_, List.getElem?_eq_getElem hlt3⟩
              obtain ⟨r, hr⟩ : ∃ r, ms[k]? = some r := ⟨_, List.getElem?_eq_getElem (by have := HML.out; omega)⟩
              have hxr : r.2 = x.2 := by
                have h1 := congrArg (fun l => l[k]?) HL3.out.mm
                simp only [List.getElem?_map, hx, hr, Option.map_some, Option.some.injEq] at h1
                exact h1
              obtain ⟨a1, rfl, hab1, _, hM1⟩ := (Sl.owned encQ_len HL3.out.hq).at hx
              obtain ⟨a2, rfl, hab2, _, hM2⟩ := (Sl.owned encR_len HL3.out.hm).at hr
              have hz1 := hM1 k x hx 0 _ rfl
              have hz2 := hM2 k r hr 0 _ rfl
              rw [Nat.mul_one, Addr.add_zero'] at hz1 hz2
              have hI := HL3.out.m r (List.mem_of_getElem? hr)
              have hQ := HL3.out.q x (List.mem_of_getElem? hx)
              have hok := (HL3.out.ok x (List.mem_of_getElem? hx)).2.1
              rw [hxr] at hI
              obtain ⟨p5, c5, hr1⟩ := hI.slice
              rw [hr1] at hz2 hI
              have HI := Lib.hid hI
              have HQ := Lib.hid hQ
              have hkm : (k : Int) < (ms.length : Int) := by have := HML.out; omega
              clear hx hr hxr hM1 hM2 hI hQ hr1
              go_wp2_with fail
              refine anyH_start 12 (fun w' => Below wr.heap.size wr w') (by kernel_rfl) rfl ?_
              have hb0 : Below wr.heap.size wr wr.drew := (Below.refl _ wr).drew
              ((first | (refine anyH_free (i := 0) (v := ?_) rfl (by kernel_rfl) (fun _ _ _ h => h) (Or.inl ⟨rfl, fun w' hS => ?_⟩) hb0 ?_; rotate_left; ((have y1 := cell_below hz1 hS; have y2 := cell_below hz2 hS); go_simp <;> with_reducible rfl)) | (refine anyH_free (i := 0) (v := undef) rfl (by kernel_rfl) (fun _ _ _ h => h) (Or.inr ⟨rfl, rfl⟩) hb0 ?_)); (simp only [Act.put, List.setIfInBounds_toArray, List.set_cons_zero, List.set_cons_succ])); ((first | (refine anyH_free (i := 1) (v := ?_) rfl (by kernel_rfl) (fun _ _ _ h => h) (Or.inl ⟨rfl, fun w' hS => ?_⟩) hb0 ?_; rotate_left; ((have y1 := cell_below hz1 hS; have y2 := cell_below hz2 hS); go_simp <;> with_reducible rfl)) | (refine anyH_free (i := 1) (v := undef) rfl (by kernel_rfl) (fun _ _ _ h => h) (Or.inr ⟨rfl, rfl⟩) hb0 ?_)); (simp only [Act.put, List.setIfInBounds_toArray, List.set_cons_zero, List.set_cons_succ])); ((first | (refine anyH_free (i := 2) (v := ?_) rfl (by kernel_rfl) (fun _ _ _ h => h) (Or.inl ⟨rfl, fun w' hS => ?_⟩) hb0 ?_; rotate_left; ((have y1 := cell_below hz1 hS; have y2 := cell_below hz2 hS); go_simp <;> with_reducible rfl)) | (refine anyH_free (i := 2) (v := undef) rfl (by kernel_rfl) (fun _ _ _ h => h) (Or.inr ⟨rfl, rfl⟩) hb0 ?_)); (simp only [Act.put, List.setIfInBounds_toArray, List.set_cons_zero, List.set_cons_succ])); ((first | (refine anyH_free (i := 3) (v := ?_) rfl (by kernel_rfl) (fun _ _ _ h => h) (Or.inl ⟨rfl, fun w' hS => ?_⟩) hb0 ?_; rotate_left; ((have y1 := cell_below hz1 hS; have y2 := cell_below hz2 hS); go_simp <;> with_reducible rfl)) | (refine anyH_free (i := 3) (v := undef) rfl (by kernel_rfl) (fun _ _ _ h => h) (Or.inr ⟨rfl, rfl⟩) hb0 ?_)); (simp only [Act.put, List.setIfInBounds_toArray, List.set_cons_zero, List.set_cons_succ])); ((first | (refine anyH_free (i := 6) (v := ?_) rfl (by kernel_rfl) (fun _ _ _ h => h) (Or.inl ⟨rfl, fun w' hS => ?_⟩) hb0 ?_; rotate_left; ((have y1 := cell_below hz1 hS; have y2 := cell_below hz2 hS); go_simp <;> with_reducible rfl)) | (refine anyH_free (i := 6) (v := undef) rfl (by kernel_rfl) (fun _ _ _ h => h) (Or.inr ⟨rfl, rfl⟩) hb0 ?_)); (simp only [Act.put, List.setIfInBounds_toArray, List.set_cons_zero, List.set_cons_succ])); ((first | (refine anyH_free (i := 7) (v := ?_) rfl (by kernel_rfl) (fun _ _ _ h => h) (Or.inl ⟨rfl, fun w' hS => ?_⟩) hb0 ?_; rotate_left; ((have y1 := cell_below hz1 hS; have y2 := cell_below hz2 hS); go_simp <;> with_reducible rfl)) | (refine anyH_free (i := 7) (v := undef) rfl (by kernel_rfl) (fun _ _ _ h => h) (Or.inr ⟨rfl, rfl⟩) hb0 ?_)); (simp only [Act.put, List.setIfInBounds_toArray, List.set_cons_zero, List.set_cons_succ])); ((first | (refine anyH_free (i := 8) (v := ?_) rfl (by kernel_rfl) (fun _ _ _ h => h) (Or.inl ⟨rfl, fun w' hS => ?_⟩) hb0 ?_; rotate_left; ((have y1 := cell_below hz1 hS; have y2 := cell_below hz2 hS); go_simp <;> with_reducible rfl)) | (refine anyH_free (i := 8) (v := undef) rfl (by kernel_rfl) (fun _ _ _ h => h) (Or.inr ⟨rfl, rfl⟩) hb0 ?_)); (simp only [Act.put, List.setIfInBounds_toArray, List.set_cons_zero, List.set_cons_succ])); ((first | (refine anyH_free (i := 9) (v := ?_) rfl (by kernel_rfl) (fun _ _ _ h => h) (Or.inl ⟨rfl, fun w' hS => ?_⟩) hb0 ?_; rotate_left; ((have y1 := cell_below hz1 hS; have y2 := cell_below hz2 hS); go_simp <;> with_reducible rfl)) | (refine anyH_free (i := 9) (v := undef) rfl (by kernel_rfl) (fun _ _ _ h => h) (Or.inr ⟨rfl, rfl⟩) hb0 ?_)); (simp only [Act.put, List.setIfInBounds_toArray, List.set_cons_zero, List.set_cons_succ]))
              refine anyH_sole (i := 4) rfl (by kernel_rfl) rfl (fun K hK => ?_)
              go_simp
              refine (all_any (HQ.out.below hb0) (by omega)).mono ?_
              rintro e w4 ⟨v4, rs4, rfl, h4, hb⟩
              obtain ⟨p4, c4, rfl⟩ := h4.all.slice
              have hb4 := below_then hb0 hb
              refine hK _ _ hb4 ?_
              clear hK K hb
              refine anyH_sole (i := 5) rfl (by kernel_rfl) rfl (fun K hK => ?_)
              go_simp
              refine (Twins_any h4.all (by omega)).mono ?_
              rintro e w5 ⟨v5, rs5, rfl, h5, hb⟩
              obtain ⟨p6, c6, rfl⟩ := h5.all.slice
              have hb5 := below_then hb4 hb
              refine hK _ _ hb5 ?_
              clear hK K hb
              refine anyH_sole (i := 10) rfl (by kernel_rfl) rfl (fun K hK => ?_)
              go_simp
              refine (sameAll_any h5.all (HI.out.below hb5) (by omega)).mono ?_
              rintro e w6 ⟨rfl, hb⟩
              have hb6 := below_then hb5 hb
              refine hK _ _ hb6 ?_
              clear hK K hb
              ((first | (refine anyH_free (i := 11) (v := ?_) rfl (by kernel_rfl) (fun _ _ _ h => h) (Or.inl ⟨rfl, fun w' hS => ?_⟩) hb6 ?_; rotate_left; (skip; go_simp <;> with_reducible rfl)) | (refine anyH_free (i := 11) (v := undef) rfl (by kernel_rfl) (fun _ _ _ h => h) (Or.inr ⟨rfl, rfl⟩) hb6 ?_)); (simp only [Act.put, List.setIfInBounds_toArray, List.set_cons_zero, List.set_cons_succ]))
              refine anyH_done (by kernel_rfl) ?_
              have HL6 := Lib.hid (HL3.out.below hb6)
              clear hb0 hb4 hb5 hb6 h4 h5 hz1 hz2
              go_wp2_with fail
              exact ⟨⟨k + 1, by simp, by omega, HL6.out⟩, by simp [intOf]; omega⟩
            · obtain rfl : k = qs.length := by omega
              go_wp2_with fail
              refine (awake21_any _).mono ?_
              rintro e w9 ⟨rfl, hb⟩
              have HB9 := Lib.hid (below_then HL3.out.b hb)
              clear hb
              go_wp2_with fail
              go_ret
              exact ⟨rfl, HB9.out⟩
        | false =>
          obtain ⟨hqd, hbad⟩ := wrong_no hwd
          have HWD := Lib.hid hwd
          clear hwd
          have hTl := mkT_len hqd
          have hRI : RI wr (fun b => b < B ∧ ¬ Mut qs (.slice pq qs.length cq) (.slice pm ms.length cm) b) (mkT qs ds) (.slice pq qs.length cq) (.slice p2 ds.length c2) 0 wr :=
            mkT_ri (w := w) hqd HL.out.q (HRW.out.mono (fun b _ e => (HL.out.nq b e).2.1)) ((HD.out.mono (fun b hb _ => hb)).below HL.out.b) (fun x hx => (HL.out.ok x hx).2.2.1)
          have hF : ∀ x ∈ mkT qs ds, ¬ (x.1 < B ∧ ¬ Mut qs (.slice pq qs.length cq) (.slice pm ms.length cm) x.1) := fun x hx s => s.2 (.inl (by
            have : x.1 ∈ tp (mkT qs ds) := List.mem_map_of_mem hx
            rwa [mkT_tp hqd] at this))
          have HRD := Lib.hid (round_any hRI hF (fun x hx y hy e => by
            obtain ⟨i, hi⟩ := List.getElem?_of_mem hx
            obtain ⟨j, hj⟩ := List.getElem?_of_mem hy
            rcases Nat.lt_trichotomy i j with h | h | h
            · exact absurd e (mkT_apart HL.out.nd (j + 1) i j x y h (by omega) hi hj)
            · subst h; rw [hi] at hj; cases hj; rfl
            · exact absurd e.symm (mkT_apart HL.out.nd (i + 1) j i y x h (by omega) hj hi)) (by rw [mkT_td hqd]; exact hbad) (by omega) (fun x hx => by
            obtain ⟨j, hj⟩ := List.getElem?_of_mem hx
            have := HL.out.ok _ (List.mem_of_getElem? (mkT_get hj).1)
            exact ⟨this.1, this.2.1⟩))
          have HQD := Lib.hid hqd
          have HTL := Lib.hid hTl
          clear hqd hbad hTl hRI hF
          have htw : (tw = true ∧ ¬ (1 : Int) < (qs.length : Int)) ∨ tw = false := by
            cases tw with
            | false => exact .inr rfl
            | true => exact .inl ⟨rfl, fun h => ht ⟨rfl, by omega⟩⟩
          rcases htw with ⟨rfl, hq1⟩ | rfl
          all_goals
            go_wp2_with fail
            have hsz : wr.heap.size ≤ wr.heap.size := Nat.le_refl _
            refine HRD.out.mono ?_
            rintro e w2 (⟨hno, _⟩ | ⟨_, vo, vl, rows, rfl, hO, hI⟩)
            · exact absurd (mkT_apart HL.out.nd _) hno
            obtain ⟨hD, ⟨po, co, rfl⟩, ⟨pl, cl, rfl⟩, hb2⟩ := rp_of HL.out HQD.out hO hI
            have HD2 := Lib.hid hD
            have HB2 := Lib.hid hb2
            have HOK := Lib.hid HL.out.ok
            have HMM := Lib.hid HL.out.mm
            have HLD := Lib.hid HQD.out
            clear hO hI HRD hD hb2 HL HRW HMW HDW HD HTL HWD
            go_wp2_with fail
            go_loopw [18] (fun iv_ w3 => ∃ k : Nat, iv_ = .int .i64 k ∧ k ≤ qs.length ∧ Below w2.heap.size w2 w3) (fun iv_ _ => qs.length - (intOf iv_).toNat)
            · exact ⟨0, rfl, by omega, Below.refl _ _⟩
            obtain ⟨k, rfl, hk5, hb5⟩ := hrel
            by_cases hlt5 : k < qs.length
            · obtain ⟨x, hx⟩ : ∃ x, qs[k]? = some x := ⟨_, List.getElem?_eq_getElem hlt5⟩
              obtain ⟨r, hr⟩ : ∃ r, ms[k]? = some r := ⟨_, List.getElem?_eq_getElem (by have := HML.out; omega)⟩
              obtain ⟨z, hz⟩ : ∃ z, ds[k]? = some z := ⟨_, List.getElem?_eq_getElem (by have := HLD.out; omega)⟩
              have hxr : r.2 = x.2 := by
                have h1 := congrArg (fun l => l[k]?) HMM.out
                simp only [List.getElem?_map, hx, hr, Option.map_some, Option.some.injEq] at h1
                exact h1
              have hok := HOK.out x (List.mem_of_getElem? hx)
              have hT := mkT_at hx hz
              have hD5 := HD2.out.below hb5
              obtain ⟨a1, rfl, _, _, hM1⟩ := hD5.row.at (x := qv x.1) (i := k) (by rw [List.getElem?_map, hx]; rfl)
              obtain ⟨a2, rfl, _, _, hM2⟩ := hD5.mrow.at hr
              obtain ⟨a3, rfl, _, _, hM3⟩ := hD5.drow.at hz
              obtain ⟨rows2, hO1, hO2, hO3⟩ := hD5.o
              obtain ⟨ro, hro, hro2⟩ : ∃ ro, rows2[k]? = some ro ∧ ro.2 = (svd x.2 z).1 := by
                have h1 := congrArg (fun l => l[k]?) hO3
                simp only [List.getElem?_map, hT, Option.map_some] at h1
                obtain ⟨ro, h2, h3⟩ := Option.map_eq_some_iff.1 h1
                exact ⟨ro, h2, h3⟩
              obtain ⟨a4, rfl, _, _, hM4⟩ := hO1.at hro
              obtain ⟨a5, rfl, _, _, hM5⟩ := hD5.l.at (x := (svd x.2 z).2.2.1) (i := k) (by rw [List.getElem?_map, hT]; rfl)
              have z1 := hM1 k _ (by rw [List.getElem?_map, hx]; rfl) 0 _ rfl
              have z2 := hM2 k r hr 0 _ rfl
              have z3 := hM3 k z hz 0 _ rfl
              have z4 := hM4 k ro hro 0 _ rfl
              have z5 := hM5 k (svd x.2 z).2.2.1 (by rw [List.getElem?_map, hT]; rfl) 0 _ rfl
              rw [Nat.mul_one, Addr.add_zero'] at z1 z2 z3 z4 z5
              have hI := hD5.m r (List.mem_of_getElem? hr)
              have hIO := hO2 ro (List.mem_of_getElem? hro)
              obtain ⟨SQ, hQ⟩ := hD5.q k x z hx hz
              rw [hxr] at hI
              rw [hro2] at hIO
              obtain ⟨p5, c5, hr1⟩ := hI.slice
              obtain ⟨p6, c6, hr2⟩ := hIO.slice
              rw [hr1] at z2 hI
              rw [hr2] at z4 hIO
              have hsl := svd_len x.2 z
              have HI := Lib.hid hI
              have HIO := Lib.hid hIO
              have HQ := Lib.hid hQ
              have HFX := Lib.hid hok.1
              have HSL := Lib.hid hsl
              have h8 := hok.2.1
              have hkm : (k : Int) < (ms.length : Int) := by have := HML.out; omega
              have hkd : (k : Int) < (ds.length : Int) := by have := HLD.out; omega
              have hkq : (k : Int) < (qs.length : Int) := by omega
              clear hx hr hz hxr hM1 hM2 hM3 hM4 hM5 hI hIO hQ hr1 hr2 hsl hok hT hD5 hO1 hO2 hO3 hro hro2
              go_wp2_with fail
              refine anyH_start 18 (fun w' => Below wr.heap.size wr w') (by kernel_rfl) rfl ?_
              have hb0 : Below wr.heap.size wr wr.drew := (Below.refl _ wr).drew
              ((first | (refine anyH_free (i := 0) (v := ?_) rfl (by kernel_rfl) (fun _ _ _ h => h) (Or.inl ⟨rfl, fun w' hS => ?_⟩) hb0 ?_; rotate_left; ((have y2 := cell_below z2 hS; have y3 := cell_below z3 hS); go_simp <;> with_reducible rfl)) | (refine anyH_free (i := 0) (v := undef) rfl (by kernel_rfl) (fun _ _ _ h => h) (Or.inr ⟨rfl, rfl⟩) hb0 ?_)); (simp only [Act.put, List.setIfInBounds_toArray, List.set_cons_zero, List.set_cons_succ])); ((first | (refine anyH_free (i := 1) (v := ?_) rfl (by kernel_rfl) (fun _ _ _ h => h) (Or.inl ⟨rfl, fun w' hS => ?_⟩) hb0 ?_; rotate_left; ((have y2 := cell_below z2 hS; have y3 := cell_below z3 hS); go_simp <;> with_reducible rfl)) | (refine anyH_free (i := 1) (v := undef) rfl (by kernel_rfl) (fun _ _ _ h => h) (Or.inr ⟨rfl, rfl⟩) hb0 ?_)); (simp only [Act.put, List.setIfInBounds_toArray, List.set_cons_zero, List.set_cons_succ])); ((first | (refine anyH_free (i := 2) (v := ?_) rfl (by kernel_rfl) (fun _ _ _ h => h) (Or.inl ⟨rfl, fun w' hS => ?_⟩) hb0 ?_; rotate_left; ((have y2 := cell_below z2 hS; have y3 := cell_below z3 hS); go_simp <;> with_reducible rfl)) | (refine anyH_free (i := 2) (v := undef) rfl (by kernel_rfl) (fun _ _ _ h => h) (Or.inr ⟨rfl, rfl⟩) hb0 ?_)); (simp only [Act.put, List.setIfInBounds_toArray, List.set_cons_zero, List.set_cons_succ])); ((first | (refine anyH_free (i := 3) (v := ?_) rfl (by kernel_rfl) (fun _ _ _ h => h) (Or.inl ⟨rfl, fun w' hS => ?_⟩) hb0 ?_; rotate_left; ((have y2 := cell_below z2 hS; have y3 := cell_below z3 hS); go_simp <;> with_reducible rfl)) | (refine anyH_free (i := 3) (v := undef) rfl (by kernel_rfl) (fun _ _ _ h => h) (Or.inr ⟨rfl, rfl⟩) hb0 ?_)); (simp only [Act.put, List.setIfInBounds_toArray, List.set_cons_zero, List.set_cons_succ])); ((first | (refine anyH_free (i := 4) (v := ?_) rfl (by kernel_rfl) (fun _ _ _ h => h) (Or.inl ⟨rfl, fun w' hS => ?_⟩) hb0 ?_; rotate_left; ((have y2 := cell_below z2 hS; have y3 := cell_below z3 hS); go_simp <;> with_reducible rfl)) | (refine anyH_free (i := 4) (v := undef) rfl (by kernel_rfl) (fun _ _ _ h => h) (Or.inr ⟨rfl, rfl⟩) hb0 ?_)); (simp only [Act.put, List.setIfInBounds_toArray, List.set_cons_zero, List.set_cons_succ])); ((first | (refine anyH_free (i := 5) (v := ?_) rfl (by kernel_rfl) (fun _ _ _ h => h) (Or.inl ⟨rfl, fun w' hS => ?_⟩) hb0 ?_; rotate_left; ((have y2 := cell_below z2 hS; have y3 := cell_below z3 hS); go_simp <;> with_reducible rfl)) | (refine anyH_free (i := 5) (v := undef) rfl (by kernel_rfl) (fun _ _ _ h => h) (Or.inr ⟨rfl, rfl⟩) hb0 ?_)); (simp only [Act.put, List.setIfInBounds_toArray, List.set_cons_zero, List.set_cons_succ])); ((first | (refine anyH_free (i := 6) (v := ?_) rfl (by kernel_rfl) (fun _ _ _ h => h) (Or.inl ⟨rfl, fun w' hS => ?_⟩) hb0 ?_; rotate_left; ((have y2 := cell_below z2 hS; have y3 := cell_below z3 hS); go_simp <;> with_reducible rfl)) | (refine anyH_free (i := 6) (v := undef) rfl (by kernel_rfl) (fun _ _ _ h => h) (Or.inr ⟨rfl, rfl⟩) hb0 ?_)); (simp only [Act.put, List.setIfInBounds_toArray, List.set_cons_zero, List.set_cons_succ])); ((first | (refine anyH_free (i := 7) (v := ?_) rfl (by kernel_rfl) (fun _ _ _ h => h) (Or.inl ⟨rfl, fun w' hS => ?_⟩) hb0 ?_; rotate_left; ((have y2 := cell_below z2 hS; have y3 := cell_below z3 hS); go_simp <;> with_reducible rfl)) | (refine anyH_free (i := 7) (v := undef) rfl (by kernel_rfl) (fun _ _ _ h => h) (Or.inr ⟨rfl, rfl⟩) hb0 ?_)); (simp only [Act.put, List.setIfInBounds_toArray, List.set_cons_zero, List.set_cons_succ]))
              refine anyH_sole (i := 8) rfl (by kernel_rfl) rfl (fun K hK => ?_)
              go_simp
              refine (refServe_all (d := z) (HI.out.below hb0) (by omega) HFX.out).mono ?_
              rintro e w4 ⟨v1, v2, rfl, hb, hv1, hv2⟩
              obtain ⟨p7, c7, rfl⟩ := hv1.slice
              obtain ⟨p8, c8, rfl⟩ := hv2.slice
              have hb4 := below_then hb0 hb
              refine hK _ _ hb4 ?_
              clear hK K hb
              ((first | (refine anyH_free (i := 9) (v := ?_) rfl (by kernel_rfl) (fun _ _ _ h => h) (Or.inl ⟨rfl, fun w' hS => ?_⟩) hb4 ?_; rotate_left; (skip; go_simp <;> with_reducible rfl)) | (refine anyH_free (i := 9) (v := undef) rfl (by kernel_rfl) (fun _ _ _ h => h) (Or.inr ⟨rfl, rfl⟩) hb4 ?_)); (simp only [Act.put, List.setIfInBounds_toArray, List.set_cons_zero, List.set_cons_succ])); ((first | (refine anyH_free (i := 10) (v := ?_) rfl (by kernel_rfl) (fun _ _ _ h => h) (Or.inl ⟨rfl, fun w' hS => ?_⟩) hb4 ?_; rotate_left; (skip; go_simp <;> with_reducible rfl)) | (refine anyH_free (i := 10) (v := undef) rfl (by kernel_rfl) (fun _ _ _ h => h) (Or.inr ⟨rfl, rfl⟩) hb4 ?_)); (simp only [Act.put, List.setIfInBounds_toArray, List.set_cons_zero, List.set_cons_succ])); ((first | (refine anyH_free (i := 11) (v := ?_) rfl (by kernel_rfl) (fun _ _ _ h => h) (Or.inl ⟨rfl, fun w' hS => ?_⟩) hb4 ?_; rotate_left; (skip; go_simp <;> with_reducible rfl)) | (refine anyH_free (i := 11) (v := undef) rfl (by kernel_rfl) (fun _ _ _ h => h) (Or.inr ⟨rfl, rfl⟩) hb4 ?_)); (simp only [Act.put, List.setIfInBounds_toArray, List.set_cons_zero, List.set_cons_succ])); ((first | (refine anyH_free (i := 12) (v := ?_) rfl (by kernel_rfl) (fun _ _ _ h => h) (Or.inl ⟨rfl, fun w' hS => ?_⟩) hb4 ?_; rotate_left; (skip; go_simp <;> with_reducible rfl)) | (refine anyH_free (i := 12) (v := undef) rfl (by kernel_rfl) (fun _ _ _ h => h) (Or.inr ⟨rfl, rfl⟩) hb4 ?_)); (simp only [Act.put, List.setIfInBounds_toArray, List.set_cons_zero, List.set_cons_succ])); ((first | (refine anyH_free (i := 13) (v := ?_) rfl (by kernel_rfl) (fun _ _ _ h => h) (Or.inl ⟨rfl, fun w' hS => ?_⟩) hb4 ?_; rotate_left; (skip; go_simp <;> with_reducible rfl)) | (refine anyH_free (i := 13) (v := undef) rfl (by kernel_rfl) (fun _ _ _ h => h) (Or.inr ⟨rfl, rfl⟩) hb4 ?_)); (simp only [Act.put, List.setIfInBounds_toArray, List.set_cons_zero, List.set_cons_succ])); ((first | (refine anyH_free (i := 14) (v := ?_) rfl (by kernel_rfl) (fun _ _ _ h => h) (Or.inl ⟨rfl, fun w' hS => ?_⟩) hb4 ?_; rotate_left; (skip; go_simp <;> with_reducible rfl)) | (refine anyH_free (i := 14) (v := undef) rfl (by kernel_rfl) (fun _ _ _ h => h) (Or.inr ⟨rfl, rfl⟩) hb4 ?_)); (simp only [Act.put, List.setIfInBounds_toArray, List.set_cons_zero, List.set_cons_succ])); ((first | (refine anyH_free (i := 15) (v := ?_) rfl (by kernel_rfl) (fun _ _ _ h => h) (Or.inl ⟨rfl, fun w' hS => ?_⟩) hb4 ?_; rotate_left; (skip; go_simp <;> with_reducible rfl)) | (refine anyH_free (i := 15) (v := undef) rfl (by kernel_rfl) (fun _ _ _ h => h) (Or.inr ⟨rfl, rfl⟩) hb4 ?_)); (simp only [Act.put, List.setIfInBounds_toArray, List.set_cons_zero, List.set_cons_succ])); ((first | (refine anyH_free (i := 16) (v := ?_) rfl (by kernel_rfl) (fun _ _ _ h => h) (Or.inl ⟨rfl, fun w' hS => ?_⟩) hb4 ?_; rotate_left; (skip; go_simp <;> with_reducible rfl)) | (refine anyH_free (i := 16) (v := undef) rfl (by kernel_rfl) (fun _ _ _ h => h) (Or.inr ⟨rfl, rfl⟩) hb4 ?_)); (simp only [Act.put, List.setIfInBounds_toArray, List.set_cons_zero, List.set_cons_succ])); ((first | (refine anyH_free (i := 17) (v := ?_) rfl (by kernel_rfl) (fun _ _ _ h => h) (Or.inl ⟨rfl, fun w' hS => ?_⟩) hb4 ?_; rotate_left; (skip; go_simp <;> with_reducible rfl)) | (refine anyH_free (i := 17) (v := undef) rfl (by kernel_rfl) (fun _ _ _ h => h) (Or.inr ⟨rfl, rfl⟩) hb4 ?_)); (simp only [Act.put, List.setIfInBounds_toArray, List.set_cons_zero, List.set_cons_succ]))
              refine anyH_done (by kernel_rfl) ?_
              have HV1 := Lib.hid hv1
              have HV2 := Lib.hid hv2
              have y4 := cell_below z4 hb4
              have y5 := cell_below z5 hb4
              clear hv1 hv2
              go_wp2_with fail
              refine (Twins_any (HIO.out.below hb4) (by have := HSL.out.1; omega)).mono ?_
              rintro e w5 ⟨v5, rs5, rfl, h5, hb⟩
              obtain ⟨p9, c9, rfl⟩ := h5.all.slice
              have HB5 := Lib.hid (below_then hb4 hb)
              have H5 := Lib.hid h5.all
              have HV1b := Lib.hid (HV1.out.below hb)
              have HV2b := Lib.hid (HV2.out.below hb)
              clear hb h5 HV1 HV2 hb4 y4 y5
              go_wp2_with fail
              refine (sameAll_any H5.out HV1b.out (by have := HSL.out.1; omega)).mono ?_
              rintro e w6 ⟨rfl, hb⟩
              have HB6 := Lib.hid (below_then HB5.out hb)
              have HV2c := Lib.hid (HV2b.out.below hb)
              have y1 := cell_below z1 HB6.out
              clear hb H5 HV1b HV2b HB5
              go_wp2_with fail
              refine (all_any (HQ.out.below HB6.out) (by have := HSL.out.2; omega)).mono ?_
              rintro e w7 ⟨v7, rs7, rfl, h7, hb⟩
              obtain ⟨p10, c10, rfl⟩ := h7.all.slice
              have HB7 := Lib.hid (below_then HB6.out hb)
              have H7 := Lib.hid h7.all
              have HV2d := Lib.hid (HV2c.out.below hb)
              clear hb h7 HV2c HB6 y1
              go_wp2_with fail
              refine (Twins_any H7.out (by have := HSL.out.2; omega)).mono ?_
              rintro e w8 ⟨v8, rs8, rfl, h8, hb⟩
              obtain ⟨p11, c11, rfl⟩ := h8.all.slice
              have HB8 := Lib.hid (below_then HB7.out hb)
              have H8 := Lib.hid h8.all
              have HV2e := Lib.hid (HV2d.out.below hb)
              clear hb h8 HV2d HB7
              go_wp2_with fail
              refine (sameAll_any H8.out HV2e.out (by have := HSL.out.2; omega)).mono ?_
              rintro e w9 ⟨rfl, hb⟩
              have HB9 := Lib.hid (below_then hb5 (below_then HB8.out hb))
              clear hb H8 HV2e HB8
              go_wp2_with fail
              exact ⟨⟨k + 1, by simp, by omega, HB9.out⟩, by simp [intOf]; omega⟩
            · obtain rfl : k = qs.length := by omega
              go_wp2_with fail
              refine (awake21_any _).mono ?_
              rintro e w9 ⟨rfl, hb⟩
              have HB9 := Lib.hid (below_then HB2.out (below_then hb5 hb))
              clear hb
              go_wp2_with fail
              go_ret
              exact ⟨rfl, HB9.out⟩
set_option maxRecDepth 100000 in
set_option maxHeartbeats 1000000 in
theorem rounds_any {v dv : Value} {ls : List (Value × List (Value × It))} {ds : List Int} {tw : Bool} {w : World} (h : Sl (fun _ => True) w v 1 encS ls) (hr : ∀ x ∈ ls, RowO w x) (hd : Sl (fun _ => True) w dv 1 encN ds) :
    Calls Try.prog 11 #[v, dv, .bool tw] w (Tells (.bool true) w) := by
  by_cases hn : ls.length ≤ 6 ∧ ds.length ≤ 10
  · exact rounds_walk h hr hd hn.1 hn.2
  · obtain ⟨p, c, rfl, _, _⟩ := h.len
    obtain ⟨p2, c2, rfl, _, _⟩ := hd.len
    clear h hr hd
    by_cases h6 : ls.length ≤ 6
    · have h1 : ¬ (6 : Int) < (ls.length : Int) := by omega
      have h2 : (10 : Int) < (ds.length : Int) := by omega
      go_enter Try.func11, Try.ntmps11
      go_wp2_with fail
      go_ret
      exact ⟨rfl, Below.refl _ _⟩
    · have h1 : (6 : Int) < (ls.length : Int) := by omega
      go_enter Try.func11, Try.ntmps11
      go_wp2_with fail
      go_ret
      exact ⟨rfl, Below.refl _ _⟩
end Go.Proofs.Ythligipgmicgfaa
