/- (*Box).Pump -/
import Derived.Test.YtfaafndaelmbfaaODue
import Derived.RangeFuncCalls
import Derived.Laws.EntriesVeiled
import Derived.Shelf.RegionOpen
namespace Go.Proofs.Ytfaafndaelmbfaa
open Go.RowKit
attribute [local go_sem] Oper.semAt_some

def pumpO (xs : List Ox) (at_ : Int) : List Ms := (xs.filter (fun x => decide (x.nx ≤ at_))).map Ox.m
def pumpL (xs : List Ox) (at_ : Int) : List Ox := xs.map (fun x => if x.nx ≤ at_ then pmX at_ x else x)
theorem pmp_pl (rs : List Ow) (at_ : Int) : (pmp rs at_ (dueB rs at_ rs.length)).map Ow.pl = pumpL (rs.map Ow.pl) at_ := by
  apply List.ext_getElem?
  intro i
  unfold pmp pumpL
  rw [List.getElem?_map, List.getElem?_mapIdx, List.getElem?_map, List.getElem?_map]
  cases h : rs[i]? with
  | none => rfl
  | some o =>
    have hl : i < rs.length := (List.getElem?_eq_some_iff.1 h).1
    have hm : (i ∈ dueB rs at_ rs.length) ↔ o.nx ≤ at_ := by
      rw [mem_dueB]
      unfold isDue
      rw [h]
      simp [hl]
    simp only [Option.map_some, hm]
    by_cases hd : o.nx ≤ at_
    · rw [if_pos hd, if_pos (show o.pl.nx ≤ at_ from hd), pmW_pl]
    · rw [if_neg hd, if_neg (show ¬ o.pl.nx ≤ at_ from hd)]
theorem msgs_due (rs : List Ow) (at_ : Int) : ∀ k, k ≤ rs.length → msgsAt rs (dueB rs at_ k) = pumpO ((rs.take k).map Ow.pl) at_
  | 0, _ => by simp [dueB, msgsAt, pumpO]
  | k + 1, hk => by
    obtain ⟨o, ho⟩ : ∃ o, rs[k]? = some o := ⟨_, List.getElem?_eq_getElem (by omega)⟩
    have ih := msgs_due rs at_ k (by omega)
    have e : pumpO ((rs.take (k + 1)).map Ow.pl) at_ = pumpO ((rs.take k).map Ow.pl) at_ ++ (if o.nx ≤ at_ then [o.m.m] else []) := by
      rw [take_snoc' ho, List.map_append]
      unfold pumpO
      rw [List.filter_append, List.map_append]
      congr 1
      by_cases hd : o.nx ≤ at_ <;> simp [Ow.pl, hd]
    by_cases hd : o.nx ≤ at_
    · rw [dueB_yes ho hd, msgsAt_snoc ho, ih, e, if_pos hd]
    · rw [dueB_no ho hd, ih, e, if_neg hd, List.append_nil]
def PumpTo (S : Nat → Prop) (p : Nat) (xs : List Ox) (at_ : Int) (w : World) (e : Ending) (w' : World) : Prop :=
  ∃ v os, e = .returned v ∧ os.map Mr.m = pumpO xs at_ ∧ Rwm w.heap.size w' v os ∧ BxAt S p w' (pumpL xs at_) ∧ Kept S w w'
theorem due_any (p : Nat) (at_ : Int) (w : World) : Calls Try.prog 32 #[bv p, .int .i64 at_] w (Is (.func (.func 40) #[] #[.pointer (some ⟨w.heap.size, 0, none⟩), .pointer (some ⟨w.heap.size + 1, 0, none⟩)]) ((w.alloc (.cells #[bv p] 23)).alloc (.cells #[.int .i64 at_] 3))) := by
  go_enter Try.func32, Try.ntmps32
  go_wp2
  go_ret
  exact ⟨rfl, rfl⟩
set_option maxRecDepth 100000 in
set_option maxHeartbeats 1000000 in
theorem pump_no {q : Value} {at_ : Int} {w : World} (h : BNo w q) : Calls Try.prog 12 #[q, .int .i64 at_] w (Tells (.slice none 0 0) w) := by
  have hb0 : Below w.heap.size w ((w.alloc (.cells #[q] 23)).alloc (.cells #[.int .i64 at_] 3)) := ((Below.refl _ w).alloc (Nat.le_refl _) _).alloc (by simp) _
  have HN := Lib.hid (none_no (h.below hb0))
  have HB := Lib.hid hb0
  have hq : ∃ o, q = .pointer o := by
    rcases h with rfl | ⟨p, rfl, _⟩
    · exact ⟨_, rfl⟩
    · exact ⟨_, rfl⟩
  obtain ⟨o, rfl⟩ := hq
  clear h hb0
  go_enter Try.func12, Try.ntmps12
  go_wp2_with fail
  refine HN.out.mono ?_
  rintro e w1 ⟨rfl, rfl⟩
  go_wp2_with fail
  go_ret
  exact ⟨rfl, HB.out⟩
set_option maxRecDepth 100000 in
set_option maxHeartbeats 1000000 in
theorem pump_arg {S : Nat → Prop} {p : Nat} {xs : List Ox} {at_ : Int} {w : World} (h : BxAt S p w xs) (hmin : minB at_ = false) : Calls Try.prog 12 #[bv p, .int .i64 at_] w (Tells (.slice none 0 0) w) := by
  have hb0 : Below w.heap.size w ((w.alloc (.cells #[bv p] 23)).alloc (.cells #[.int .i64 at_] 3)) := ((Below.refl _ w).alloc (Nat.le_refl _) _).alloc (by simp) _
  have HN := Lib.hid (none_any (h.below hb0))
  have HB := Lib.hid hb0
  have HM := Lib.hid hmin
  clear h hb0 hmin
  go_enter Try.func12, Try.ntmps12
  go_wp2_with fail
  refine HN.out.mono ?_
  rintro e w1 ⟨rfl, rfl⟩
  go_wp2_with fail
  refine (minute_any at_ _).mono ?_
  rw [HM.out]
  rintro e w1 ⟨rfl, rfl⟩
  go_wp2_with fail
  go_ret
  exact ⟨rfl, HB.out⟩
theorem pi_start {S : Nat → Prop} {p : Nat} {p1 : Option Addr} {c b : Nat} {rs : List Ow} {at_ : Int} {fn : Value} {w W0 : World} (hin : BxIn S p w (.slice p1 rs.length c) rs) (hb : b = w.heap.size) (hb0 : Below w.heap.size w W0) (hs : W0.heap.size = b + 2) (e2 : Box W0 b #[bv p] 23) (e3 : Box W0 (b + 1) #[.int .i64 at_] 3) :
    PI S p p1 c b rs at_ fn w [] ((((W0.alloc (.cells #[.slice none 0 0] 38)).alloc (.cells #[fn] 69)).alloc (.cells #[bv p] 23)).alloc (.cells #[.int .i64 at_] 3)) ∧ b + 5 < ((((W0.alloc (.cells #[.slice none 0 0] 38)).alloc (.cells #[fn] 69)).alloc (.cells #[bv p] 23)).alloc (.cells #[.int .i64 at_] 3)).heap.size := by
  have n5 := Box.new W0 #[.slice none 0 0] 38
  have n6 := Box.new (W0.alloc (.cells #[.slice none 0 0] 38)) #[fn] 69
  have n7 := Box.new ((W0.alloc (.cells #[.slice none 0 0] 38)).alloc (.cells #[fn] 69)) #[bv p] 23
  have n8 := Box.new (((W0.alloc (.cells #[.slice none 0 0] 38)).alloc (.cells #[fn] 69)).alloc (.cells #[bv p] 23)) #[.int .i64 at_] 3
  simp only [World.size_alloc, hs] at n5 n6 n7 n8
  have hbb : Below w.heap.size w ((((W0.alloc (.cells #[.slice none 0 0] 38)).alloc (.cells #[fn] 69)).alloc (.cells #[bv p] 23)).alloc (.cells #[.int .i64 at_] 3)) := (((hb0.alloc (by omega) _).alloc (by simp only [World.size_alloc]; omega) _).alloc (by simp only [World.size_alloc]; omega) _).alloc (by simp only [World.size_alloc]; omega) _
  have hin2 := hin.kept (F := fun _ => False) (kept_of_below hbb) (fun _ _ _ x => x) (fun x => x)
  refine ⟨⟨kept_of_below hbb, hin2.box, by rw [pmp_nil]; exact hin2.own, fun r hr => ((hin.mo r hr).mono (fun k hk s => ⟨s.1, s.2, hk⟩)).below hbb, (((e2.alloc _).alloc _).alloc _).alloc _, (((e3.alloc _).alloc _).alloc _).alloc _, ⟨_, [], ((n5.alloc _).alloc _).alloc _, Rwm.nil _ _, rfl⟩, (n6.alloc _).alloc _, n7.alloc _, n8⟩, by simp only [World.size_alloc]; omega⟩
theorem own_isCells {W : World} {base : Nat} {e : TypeId} {size n : Nat} {v : Value} {xs : List Value} (h : W.ownsRow base e size v n xs) {b : Nat} (hb : v.ownBlock = some b) {o : Obj} (ho : W.heap[b]? = some o) : o.isCells ≠ false := by
  rcases h.2 with ⟨rfl, _⟩ | ⟨g, cap, cur, rfl, _, hg, _⟩
  · cases hb
  · cases hb
    rw [hg] at ho
    cases ho
    simp [Obj.isCells]
theorem pi_next {S : Nat → Prop} {p g c b k : Nat} {rs : List Ow} {at_ : Int} {fn : Value} {w W W3 : World} {pre : List Nat} {v v' : Value} {os : List Mr} {r : Mr} {o : Ow} (hI : PI S p (some ⟨g, 0, none⟩) c b rs at_ fn w pre W) (hb : b = w.heap.size) (hp : p < b) (hpg : p ≠ g) (hgb : g < b) (h5 : Box W (b + 2) #[v] 38) (hr : Rwm (b + 6) W v os) (hos : os.map Mr.m = msgsAt rs pre) (ho : rs[k]? = some o)
    (hrm : r.m = o.m.m) (hbo3 : Box W3 (b + 2) #[v'] 38) (hr3 : Rwm (b + 6) W3 v' (os ++ [r])) (ho3 : W3.ownsRow 0 36 7 (.slice (some ⟨g, 0, none⟩) rs.length c) rs.length (((pmp rs at_ pre).set k (pmW at_ o)).flatMap encO)) (hk3 : Kept (fun x => x = g ∨ x = b + 2 ∨ v.ownBlock = some x) W.drew W3) :
    KeepsOthers W W3 ∧ PI S p (some ⟨g, 0, none⟩) c b rs at_ fn w (pre ++ [k]) W3 := by
  have hk : Kept (fun x => x = g ∨ x = b + 2 ∨ v.ownBlock = some x) W W3 := Kept.first (Below.refl _ W).drew hk3
  have hv : ∀ x, v.ownBlock = some x → b + 6 ≤ x := fun x e => (hr.own.lt x e).1
  have hsz : W.heap.size ≤ W3.heap.size := hk.size
  rw [pmp_snoc ho] at ho3
  refine ⟨⟨hsz, fun j o' ho' hc => (hk.block j (lt_block ho') (fun hf => ?_)).trans ho'⟩, ⟨?_, ?_, ho3, fun r hr' => ?_, ?_, ?_, ⟨v', _, hbo3, hr3, by rw [List.map_append, hos, msgsAt_snoc ho]; simp [hrm]⟩, ?_, ?_, ?_⟩⟩
  · rcases hf with rfl | rfl | e
    · exact own_isCells hI.own rfl ho' hc
    · rw [show W.heap[b + 2]? = _ from h5] at ho'
      cases ho'
      cases hc
    · exact own_isCells hr.own e ho' hc
  · refine hI.kept.trans hk (fun _ _ e => e) (fun i hi e => ?_)
    rcases e with rfl | rfl | e
    · rfl
    · omega
    · have := hv i e; omega
  · exact hI.box.kept hk (fun e => by
      rcases e with e | e | e
      · exact hpg e
      · omega
      · have := hv p e; omega)
  · exact (hI.mo r hr').kept hk (fun i _ s e => by
      rcases e with rfl | rfl | e
      · exact s.2.1 rfl
      · have := s.2.2; omega
      · have := hv i e; have := s.2.2; omega)
  · exact hI.b2.kept hk (fun e => by
      rcases e with e | e | e
      · omega
      · omega
      · have := hv _ e; omega)
  · exact hI.b3.kept hk (fun e => by
      rcases e with e | e | e
      · omega
      · omega
      · have := hv _ e; omega)
  · exact hI.b6.kept hk (fun e => by
      rcases e with e | e | e
      · omega
      · omega
      · have := hv _ e; omega)
  · exact hI.b7.kept hk (fun e => by
      rcases e with e | e | e
      · omega
      · omega
      · have := hv _ e; omega)
  · exact hI.b8.kept hk (fun e => by
      rcases e with e | e | e
      · omega
      · omega
      · have := hv _ e; omega)
theorem pmp_mem {rs : List Ow} {at_ : Int} {pre : List Nat} {r : Ow} (h : r ∈ pmp rs at_ pre) : ∃ o ∈ rs, r.m = o.m := by
  unfold pmp at h
  obtain ⟨i, hi⟩ := List.getElem?_of_mem h
  rw [List.getElem?_mapIdx] at hi
  cases ho : rs[i]? with
  | none => rw [ho] at hi; cases hi
  | some o =>
    rw [ho] at hi
    refine ⟨o, List.mem_of_getElem? ho, ?_⟩
    simp only [Option.map_some, Option.some.injEq] at hi
    rw [← hi]
    split <;> rfl
theorem Rwm.lower {base base' : Nat} {W : World} {v : Value} {rs : List Mr} (h : Rwm base W v rs) (hb : base' ≤ base) : Rwm base' W v rs := ⟨owns_lower h.own hb, fun r hr => (h.mw r hr).lower hb, h.ne⟩
theorem pump_end {S : Nat → Prop} {p : Nat} {p1 : Option Addr} {c b : Nat} {rs : List Ow} {at_ : Int} {fn : Value} {w W : World} {v : Value} {os : List Mr} (hin : BxIn S p w (.slice p1 rs.length c) rs) (hI : PI S p p1 c b rs at_ fn w (dueB rs at_ rs.length) W) (hb : b = w.heap.size) (hr : Rwm (b + 6) W v os) (hos : os.map Mr.m = msgsAt rs (dueB rs at_ rs.length)) : PumpTo S p (rs.map Ow.pl) at_ w (.returned v) W := by
  refine ⟨v, os, rfl, ?_, hr.lower (by omega), ⟨_, pmp rs at_ (dueB rs at_ rs.length), pmp_pl rs at_, hI.box, ?_, hin.os, fun r hr' => ?_, hin.np⟩, hI.kept.mono (fun i _ e => hin.os i e)⟩
  · rw [hos, msgs_due rs at_ _ (Nat.le_refl _), List.take_length]
  · rw [pmp_len]
    exact hI.own
  · obtain ⟨o, ho, e⟩ := pmp_mem hr'
    rw [e]
    exact (hI.mo o ho).mono (fun i _ s => ⟨s.1, s.2.1⟩)
set_option maxRecDepth 100000 in
set_option maxHeartbeats 4000000 in
theorem pump_any {S : Nat → Prop} {p : Nat} {xs : List Ox} {at_ : Int} {w : World} (h : BxAt S p w xs) (hn : xs.length ≤ 1000) (hf : FewO xs) (ht : ∀ x ∈ xs, 0 ≤ x.tr ∧ x.tr ≤ 2199023255552) (hmin : minB at_ = true) : Calls Try.prog 12 #[bv p, .int .i64 at_] w (PumpTo S p xs at_ w) := by
  have ha : 0 ≤ at_ ∧ at_ ≤ 1099511627776 := by
    unfold minB at hmin
    simpa using hmin
  have HMI := Lib.hid hmin
  have hb0 : Below w.heap.size w ((w.alloc (.cells #[bv p] 23)).alloc (.cells #[.int .i64 at_] 3)) := ((Below.refl _ w).alloc (Nat.le_refl _) _).alloc (by simp) _
  have HN := Lib.hid (none_any (h.below hb0))
  have HH := Lib.hid h
  obtain ⟨v, rs, rfl, hin⟩ := h
  obtain ⟨p1, c, rfl⟩ := owns_slice hin.own
  rw [List.length_map] at hn
  have HF : Hid (∀ r ∈ rs, Few r.m.m) := Lib.hid fun r hr => hf r.pl (List.mem_map.2 ⟨r, hr, rfl⟩)
  have HT : Hid (∀ r ∈ rs, 0 ≤ r.tr ∧ r.tr ≤ 2199023255552) := Lib.hid fun r hr => ht r.pl (List.mem_map.2 ⟨r, hr, rfl⟩)
  obtain ⟨b, hb⟩ : ∃ b, b = w.heap.size := ⟨_, rfl⟩
  have e2 := Box.new w #[bv p] 23
  have e3 := Box.new (w.alloc (.cells #[bv p] 23)) #[.int .i64 at_] 3
  rw [World.size_alloc] at e3
  have e2 := e2.alloc (.cells #[.int .i64 at_] 3)
  have HIN := Lib.hid hin
  obtain ⟨W0, hW0⟩ : ∃ W0, ((w.alloc (.cells #[bv p] 23)).alloc (.cells #[.int .i64 at_] 3)) = W0 := ⟨_, rfl⟩
  have hs0 : W0.heap.size = b + 2 := by rw [← hW0, hb]; simp
  rw [hW0] at e2 e3 HN hb0
  rw [← hb] at e2 e3
  have HS0 := Lib.hid hs0
  have HW0 := Lib.hid hW0
  have HB := Lib.hid hb
  have HB0 := Lib.hid hb0
  have c2 := e2.rd.1
  have c3 := e3.rd.1
  have l2 := e2.lt
  have l3 := e3.lt
  have E2 := Lib.hid e2
  have E3 := Lib.hid e3
  clear hin hb0 hf ht hmin e2 e3 hW0 hb hs0
  refine (callsIn_wide (n := 5)).1 ?_
  refine callsIn_of_wp_marks Try.func12 rfl trivial ?_ rfl
  simp only [Try.ntmps12, List.size_toArray, List.length_cons, List.length_nil, Nat.reduceAdd, Nat.reduceSub, Array.replicate_succ, Array.replicate_zero, List.push_toArray, List.append_toArray, List.nil_append, List.cons_append]
  refine wpIn_wide.2 ?_
  go_wp2_with fail
  rw [HW0.out, ← HB.out]
  refine HN.out.mono ?_
  rintro e w1 ⟨rfl, rfl⟩
  go_wp2_with fail
  refine (minute_any at_ _).mono ?_
  rw [HMI.out]
  rintro e w1 ⟨rfl, rfl⟩
  go_wp2_with fail
  refine (due_any p at_ _).mono ?_
  rintro e w1 ⟨rfl, rfl⟩
  go_wp2_with fail
  rw [HS0.out]
  refine code_gen (fun W => PI S p p1 c b rs at_ (.func (.func 31) #[] #[.pointer (some ⟨b + 1, 0, none⟩), .pointer (some ⟨b + 2, 0, none⟩)]) w [] W ∧ b + 5 < W.heap.size) ?_ ?_
  · exact pi_start HIN.out HB.out HB0.out HS0.out E2.out E3.out
  rintro W ⟨hI, hWs⟩
  clear c2 c3 l2 l3 HN
  refine (wpIn_wide (n := 5)).1 ?_
  apply range_feeds (F := Fence.wide) (n := 5) (gf := 40) (lb := #[.pointer (some ⟨b + 4, 0, none⟩), .pointer (some ⟨b + 5, 0, none⟩)]) rfl (by omega) rfl trivial (enters_of Try.func40 (by kernel_rfl) rfl) (due1_feeds 4 (by omega) hn) (fun _ => rfl) (PI.own' (by have := HB.out; omega)) hI _ ?assign ?body ?done
  case assign =>
    intro l x W K hK
    gi_wp2
    exact hK
  case body =>
    clear hI hWs W
    rintro l pre k W hI ⟨hpre, o, ho, hd⟩
    obtain ⟨g, rfl⟩ : ∃ g, p1 = some ⟨g, 0, none⟩ := by
      have := (List.getElem?_eq_some_iff.1 ho).1
      rcases hI.own.2 with ⟨_, h⟩ | ⟨g, cap, cur, h, _⟩
      · omega
      · exact ⟨g, by cases h; rfl⟩
    obtain ⟨v, os, h5, hr, hos⟩ := hI.b5
    have hkp : k ∉ pre := by rw [hpre]; intro h; have := (mem_dueB.1 h).1; omega
    have hklt : k < rs.length := (List.getElem?_eq_some_iff.1 ho).1
    have hox : (pmp rs at_ pre)[k]? = some o := pmp_at ho hkp
    have hmem := List.mem_of_getElem? ho
    have hgw : g < w.heap.size := (HIN.out.own.lt g rfl).2
    have hol : os.length ≤ 1000 := by
      have e1 := congrArg List.length hos
      rw [List.length_map] at e1
      have e2 := msgsAt_len (rs := rs) pre
      rw [hpre] at e2 e1
      have e3 := dueB_len rs at_ k
      omega
    have hsz : b + 6 ≤ W.heap.size := by have := hI.b8.lt; omega
    have hbw := HB.out
    have hI1 := hI.later (Below.refl _ W).drew
    have h51 := h5.below (Below.refl _ W).drew
    have hr1 := hr.below (Below.refl _ W).drew
    have hmo := hI1.mo o hmem
    have ht := HT.out o hmem
    have HC := Lib.hid (send_any hI1.own hox hmo (fun h => h.2.1 rfl) (HF.out o hmem) ht.1 ht.2 ha.1 ha.2 hI1.b3 h51 hr1 hol (by omega) (by omega) (by omega) (show b + 6 ≤ W.heap.size from hsz))
    obtain ⟨d0, f0⟩ := hI.box.rd
    have d2 := hI.b2.rd.1
    have d6 : ∀ i, W.cell? ⟨b + 2 + 1, i, none⟩ = _ := hI.b6.rd.1
    have hkk : (k : Int) < (rs.length : Int) := by omega
    have HI := Lib.hid hI
    have H5 := Lib.hid h5
    have HR := Lib.hid hr
    have HOS := Lib.hid hos
    have HO := Lib.hid ho
    have HPR := Lib.hid hpre
    clear hI hI1 h5 h51 hr hr1 hmo ht hos hbw hpre hox ho hmem hd
    gi_wp2
    have hmx : Try.prog.follows .mixedOrders = true := by kernel_rfl
    gi_region_with_o (refine ⟨trivial, ?_⟩; refine (CallsIn.inRound l (callsIn_wide.2 HC.out)).mono ?_; rintro e W3 ⟨v', r, rfl, hrm, hbo3, hr3, ho3, hk3⟩)
    all_goals exact pi_next HI.out HB.out (by have := HIN.out.box.lt; have := HB.out; omega) (fun e => HIN.out.np (HIN.out.os p (by rw [e]; rfl))) (by have := HB.out; omega) H5.out HR.out HOS.out HO.out hrm hbo3 hr3 ho3 hk3
  case done =>
    rintro D ys W' hD rfl hI hK
    have HK := Lib.hid hK
    obtain ⟨v, os, h5, hr, hos⟩ := hI.b5
    obtain ⟨p5, c5, rfl⟩ := owns_slice hr.own
    have c5' := h5.rd.1
    have HI := Lib.hid (hI.grown (grownBy_putObj' W' D (.deferred none)) (fun r e => by cases e; exact ⟨by have := HS0.out; have := HB.out; omega, _, hK, rfl⟩))
    have HR := Lib.hid (hr.cells (keepsCells_grown (grownBy_putObj' W' D (.deferred none)) (fun r e => by cases e; exact ⟨_, hK, rfl⟩)))
    have HOS := Lib.hid hos
    clear hI hK hr hos h5
    go_wp2
    refine ⟨by simp, .inl ⟨_, _, rfl, run_takeDeferred HK.out, ?_⟩⟩
    have hfin := pump_end HIN.out HI.out HB.out HR.out HOS.out
    refine ⟨_, results_tmp rfl _ _ _, ?_⟩
    exact hfin
end Go.Proofs.Ytfaafndaelmbfaa
