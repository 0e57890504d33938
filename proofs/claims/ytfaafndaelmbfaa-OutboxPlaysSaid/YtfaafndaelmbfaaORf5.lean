/- The document's Pump. -/
import Derived.Test.YtfaafndaelmbfaaORf4
namespace Go.Proofs.Ytfaafndaelmbfaa
open Go.RowKit
attribute [local go_sem] Oper.semAt_some

/-- rows of messages of the call's own; what they hold lies in S -/
structure Rrm (base : Nat) (S : Nat → Prop) (W : World) (v : Value) (rs : List Mr) : Prop where
  own : W.ownsRow base 31 5 v rs.length (rs.flatMap encM)
  mo : ∀ r ∈ rs, Mo S W r
theorem Rrm.msl {base : Nat} {S : Nat → Prop} {W : World} {v : Value} {rs : List Mr} (h : Rrm base S W v rs) : Msl (fun b => S b ∨ base ≤ b) W v (rs.map Mr.m) :=
  ⟨rs, rfl, (Sl.owned encM_len h.own).mono (fun b _ e => .inr (h.own.lt b e).1), fun r hr => (h.mo r hr).mono (fun _ _ s => .inl s)⟩
theorem Rrm.nil (base : Nat) (S : Nat → Prop) (W : World) : Rrm base S W (.slice none 0 0) [] := ⟨World.ownsRow_nil _ _ _ _, fun r hr => by cases hr⟩
theorem Rrm.kept {base : Nat} {S F : Nat → Prop} {W W' : World} {v : Value} {rs : List Mr} (h : Rrm base S W v rs) (hk : Kept F W W') (hS : ∀ b, S b → ¬ F b) (hv : ∀ b, v.ownBlock = some b → ¬ F b) : Rrm base S W' v rs :=
  ⟨owns_keep h.own (fun b e => hk.block b (h.own.lt b e).2 (hv b e)), fun r hr => (h.mo r hr).kept hk (fun b _ s => hS b s)⟩
theorem Rro.kept {base : Nat} {S F : Nat → Prop} {W W' : World} {v : Value} {rs : List Ow} (h : Rro base S W v rs) (hk : Kept F W W') (hS : ∀ b, S b → ¬ F b) (hv : ∀ b, v.ownBlock = some b → ¬ F b) : Rro base S W' v rs :=
  ⟨owns_keep h.own (fun b e => hk.block b (h.own.lt b e).2 (hv b e)), fun r hr => (h.mo r hr).kept hk (fun b _ s => hS b s)⟩
theorem Rrm.snoc {base : Nat} {S : Nat → Prop} {W W' : World} {v v' : Value} {rs : List Mr} {r : Mr} {o : Obj} (h : Rrm base S W v rs) (hr : Mo S W r) (hS : ∀ b, S b → b < base)
    (hown : W'.ownsRow base 31 5 v' (rs ++ [r]).length ((rs ++ [r]).flatMap encM)) (hk : Kept (fun b => v.ownBlock = some b) (W.alloc o) W') : Rrm base S W' v' (rs ++ [r]) := by
  have hal : Below W.heap.size W (W.alloc o) := (Below.refl _ W).alloc (Nat.le_refl _) _
  refine ⟨hown, fun x hx => ?_⟩
  have hm : Mo S W x := by
    rcases List.mem_append.1 hx with hx | hx
    · exact h.mo x hx
    · obtain rfl : x = r := by simpa using hx
      exact hr
  exact (hm.below hal).kept hk (fun b _ s e => by have := (h.own.lt b e).1; have := hS b s; omega)
def nxt (t : Int) (x : Ox) : Ox := if minB t then step1 t x else x
theorem sendL_snoc (xs : List Ox) (x : Ox) (t : Int) : sendL (xs ++ [x]) t = sendL xs t ++ [nxt t x] := by
  rw [sendL_eq, sendL_eq]
  unfold nxt
  split <;> simp
theorem sendO_snoc (xs : List Ox) (x : Ox) (t : Int) : sendO (xs ++ [x]) t = sendO xs t ++ if minB t && decide (x.nx ≤ t) then [x.m] else [] := by
  unfold sendO pumpO
  by_cases h : minB t = true
  · by_cases h2 : x.nx ≤ t
    · simp [h, h2]
    · simp [h, h2]
  · simp [h]
/-- as far as the k-th -/
structure PU (A : Nat → Prop) (w : World) (xs : List Ox) (t : Int) (k : Nat) (os : List Mr) (ls : List Ow) (ov lv : Value) (W : World) : Prop where
  eo : os.map Mr.m = sendO (xs.take k) t
  el : ls.map Ow.pl = sendL (xs.take k) t
  ro : Rrm w.heap.size A W ov os
  rl : Rro w.heap.size A W lv ls
  ne : ∀ b, ov.ownBlock = some b → lv.ownBlock ≠ some b
  below : Below w.heap.size w W
  lo : os.length ≤ k
  ll : ls.length ≤ k
/-- behind the test: the box holds what stays -/
structure PV (A : Nat → Prop) (w : World) (xs : List Ox) (t : Int) (k : Nat) (os : List Mr) (ls : List Ow) (o : Ow) (tb : Nat) (ov lv : Value) (W : World) : Prop where
  eo : os.map Mr.m = sendO (xs.take (k + 1)) t
  el : ls.map Ow.pl = sendL (xs.take k) t
  ro : Rrm w.heap.size A W ov os
  rl : Rro w.heap.size A W lv ls
  ne : ∀ b, ov.ownBlock = some b → lv.ownBlock ≠ some b
  below : Below w.heap.size w W
  lo : os.length ≤ k + 1
  ll : ls.length ≤ k
  mo : Mo A W o.m
  bx : Box W tb (oc o) 36
  pl : sendL (xs.take (k + 1)) t = sendL (xs.take k) t ++ [o.pl]
theorem pv_end {A : Nat → Prop} {w : World} {xs : List Ox} {t : Int} {k : Nat} {os : List Mr} {ls : List Ow} {o : Ow} {tb : Nat} {ov lv v2 : Value} {W w2 : World} (h : PV A w xs t k os ls o tb ov lv W) (hA : ∀ b, A b → b < w.heap.size)
    (hown : w2.ownsRow w.heap.size 36 7 v2 (ls ++ [o]).length ((ls ++ [o]).flatMap encO)) (hk : Kept (fun b => lv.ownBlock = some b) (W.alloc (.cells (oc o) 36)) w2) (hat : v2.ownBlock = lv.ownBlock ∨ v2.ownBlock = some (W.alloc (.cells (oc o) 36)).heap.size) : ∃ ls' : List Ow, PU A w xs t (k + 1) os ls' ov v2 w2 := by
  have hal : Below W.heap.size W (W.alloc (.cells (oc o) 36)) := (Below.refl _ W).alloc (Nat.le_refl _) _
  refine ⟨ls ++ [o], h.eo, by rw [List.map_append, h.el, h.pl]; rfl, (h.ro.kept (F := fun _ => False) (kept_of_below hal) (fun _ _ f => f) (fun _ _ f => f)).kept hk (fun b s e => by have := (h.rl.own.lt b e).1; have := hA b s; omega) (fun b e e2 => h.ne b e e2), h.rl.snoc h.mo hA hown hk, fun b e e2 => ?_, (h.below.trans (hal.mono h.below.size)).trans (hk.below (fun b e => (h.rl.own.lt b e).1) (by have := h.below.size; have := hal.size; omega)), h.lo, by have := h.ll; simp; omega⟩
  rcases hat with e3 | e3
  · exact h.ne b e (e3 ▸ e2)
  · rw [e3] at e2
    have := (h.ro.own.lt b e).2
    rw [World.size_alloc] at e2
    simp only [Option.some.injEq] at e2
    omega
theorem pv_put {A : Nat → Prop} {w : World} {xs : List Ox} {t : Int} {k : Nat} {os' : List Mr} {ls : List Ow} {r : Mr} {tr1 nx1 : Int} {tb : Nat} {v2 lv : Value} {w2 W5 : World} (h1 : Rrm w.heap.size A w2 v2 os') (h2 : Rro w.heap.size A w2 lv ls) (h3 : ∀ b, v2.ownBlock = some b → lv.ownBlock ≠ some b ∧ b ≠ tb) (h4 : Below w.heap.size w w2) (h6 : Mo A w2 r) (hk : Kept (fun b => b = tb) w2 W5) (hb : Box W5 tb (oc ⟨r, tr1, nx1⟩) 36) (hwt : w.heap.size ≤ tb) (hlv : ∀ b, lv.ownBlock = some b → b < tb) (hA : ∀ b, A b → b < w.heap.size)
    (eo : os'.map Mr.m = sendO (xs.take (k + 1)) t) (el : ls.map Ow.pl = sendL (xs.take k) t) (lo : os'.length ≤ k + 1) (ll : ls.length ≤ k) (pl : sendL (xs.take (k + 1)) t = sendL (xs.take k) t ++ [⟨r.m, tr1, nx1⟩]) : PV A w xs t k os' ls ⟨r, tr1, nx1⟩ tb v2 lv W5 :=
  ⟨eo, el, h1.kept hk (fun b s e => by have := hA b s; omega) (fun b e => (h3 b e).2), h2.kept hk (fun b s e => by have := hA b s; omega) (fun b e e2 => by have := hlv b e; omega), fun b e => (h3 b e).1, h4.trans (hk.below (fun b e => by omega) h4.size), lo, ll, h6.kept hk (fun b _ s e => by have := hA b s; omega), hb, pl⟩
theorem pu_send {A : Nat → Prop} {w : World} {xs : List Ox} {t : Int} {k : Nat} {os : List Mr} {ls : List Ow} {o : Ow} {r : Mr} {tb : Nat} {ov lv v2 : Value} {w0 W w2 : World} (h : PU A w xs t k os ls ov lv w0) (hro : Rrm w.heap.size A W ov os) (hrl : Rro w.heap.size A W lv ls) (hbw : Below w.heap.size w W) (hm : Mo A W r) (hb : Box W tb (oc o) 36) (hov : ∀ b, ov.ownBlock = some b → b < tb) (_ : ∀ b, lv.ownBlock = some b → b < tb) (hwt : w.heap.size ≤ tb) (hA : ∀ b, A b → b < w.heap.size)
    (hown : w2.ownsRow w.heap.size 31 5 v2 (os ++ [r]).length ((os ++ [r]).flatMap encM)) (hk : Kept (fun b => ov.ownBlock = some b) (W.alloc (.cells (mc r) 31)) w2) (hat : v2.ownBlock = ov.ownBlock ∨ v2.ownBlock = some (W.alloc (.cells (mc r) 31)).heap.size) :
    Rrm w.heap.size A w2 v2 (os ++ [r]) ∧ Rro w.heap.size A w2 lv ls ∧ (∀ b, v2.ownBlock = some b → lv.ownBlock ≠ some b ∧ b ≠ tb) ∧ Below w.heap.size w w2 ∧ Box w2 tb (oc o) 36 ∧ Mo A w2 r := by
  have hal : Below W.heap.size W (W.alloc (.cells (mc r) 31)) := (Below.refl _ W).alloc (Nat.le_refl _) _
  have hbl := hb.lt
  refine ⟨hro.snoc hm hA hown hk, (hrl.kept (F := fun _ => False) (kept_of_below hal) (fun _ _ f => f) (fun _ _ f => f)).kept hk (fun b s e => by have := (hro.own.lt b e).1; have := hA b s; omega) (fun b e e2 => h.ne b e2 e), fun b e => ?_, (hbw.trans (hal.mono hbw.size)).trans (hk.below (fun b e => (hro.own.lt b e).1) (by have := hbw.size; have := hal.size; omega)), (hb.below hal).kept hk (fun e => by have := hov _ e; omega), (hm.below hal).kept hk (fun b _ s e => by have := (hro.own.lt b e).1; have := hA b s; omega)⟩
  rcases hat with e3 | e3
  · rw [e3] at e
    exact ⟨h.ne b e, fun e4 => by have := hov b e; omega⟩
  · rw [e3, World.size_alloc] at e
    simp only [Option.some.injEq] at e
    exact ⟨fun e4 => by have := (hrl.own.lt b e4).2; omega, fun e4 => by omega⟩
def RPumpTo (A : Nat → Prop) (xs : List Ox) (t : Int) (w : World) (e : Ending) (w' : World) : Prop := ∃ ov lv os ls, e = .returned (.tuple #[ov, lv]) ∧ PU A w xs t xs.length os ls ov lv w'
set_option maxRecDepth 100000 in
set_option maxHeartbeats 8000000 in
theorem rpump_any {A T : Nat → Prop} {v : Value} {xs : List Ox} {t : Int} {w : World} (h : Rf A T w v xs) (hA : ∀ b, A b → b < w.heap.size) (hn : xs.length ≤ 1000) (htr : TrOk xs) : Calls Try.prog 19 #[v, .int .i64 t] w (RPumpTo A xs t w) := by
  obtain ⟨ms, hms, hsl, hmo⟩ := h
  obtain ⟨p0, c0, rfl, -, -⟩ := hsl.len
  have hml : ms.length ≤ 1000 := by rw [← List.length_map (f := Ow.pl), hms]; exact hn
  have HL := Lib.hid hsl
  have HMO := Lib.hid hmo
  have HA := Lib.hid hA
  have HMS := Lib.hid hms
  have HTR := Lib.hid htr
  have HXL : Hid (xs.length = ms.length) := Lib.hid (by rw [← hms, List.length_map])
  clear hsl hmo hA hms htr hn
  obtain ⟨i0, hi, hi0, hi1, hi2⟩ := info_parts info_owed
  obtain ⟨j0, hj, hj0, hj1, hj2⟩ := info_parts info_msg
  have HI := Lib.hid hi
  have HI0 := Lib.hid hi0
  have HI1 := Lib.hid hi1
  have HI2 := Lib.hid hi2
  have HJ := Lib.hid hj
  have HJ0 := Lib.hid hj0
  have HJ1 := Lib.hid hj1
  have HJ2 := Lib.hid hj2
  clear hi hi0 hi1 hi2 hj hj0 hj1 hj2
  go_enter Try.func19, Try.ntmps19
  go_wp2_with fail
  go_loopw [6, 7, 8, 9, 10] (fun ov lv iv_ _ _ wr => ∃ (k : Nat) (os : List Mr) (ls : List Ow), iv_ = .int .i64 k ∧ k ≤ ms.length ∧ PU A w xs t k os ls ov lv wr) (fun _ _ iv_ _ _ _ => ms.length - (intOf iv_).toNat)
  · exact ⟨0, [], [], rfl, by omega, ⟨by unfold sendO pumpO; simp, by unfold sendL pumpL; simp, Rrm.nil _ _ _, Rro.nil _ _ _, (fun b e => by cases e), Below.refl _ _, by simp, by simp⟩⟩
  obtain ⟨k, os, ls, rfl, hk, hP⟩ := hrel
  have HP := Lib.hid hP
  clear hP
  by_cases hlt : k < ms.length
  · obtain ⟨⟨⟨kv, sv, m⟩, tr, nx⟩, hx⟩ : ∃ r, ms[k]? = some r := ⟨_, List.getElem?_eq_getElem hlt⟩
    have hm := HMO.out _ (List.mem_of_getElem? hx)
    have hxx : xs[k]? = some ⟨m, tr, nx⟩ := by rw [← HMS.out, List.getElem?_map, hx]; rfl
    have htr := HTR.out _ (List.mem_of_getElem? hxx)
    obtain ⟨q1, d1, e3, _, _⟩ := hm.k.len
    obtain ⟨q2, d2, e4, _, _⟩ := hm.s.len
    simp only at e3 e4 htr
    subst e3 e4
    obtain ⟨htr0, htr1⟩ := htr
    obtain ⟨a, rfl, -, -, hM⟩ := (HL.out.below HP.out.below).at hx
    obtain ⟨x0, x1, x2, x3, x4, x5, x6⟩ := Co.of hM hx
    simp only at x0 x1 x2 x3 x4 x5 x6
    have hkk : (k : Int) < (ms.length : Int) := by omega
    have HTO : Hid (sendO (xs.take (k + 1)) t = sendO (xs.take k) t ++ if minB t && decide (nx ≤ t) then [m] else []) := Lib.hid (by rw [take_snoc' hxx, sendO_snoc])
    have HTL : Hid (sendL (xs.take (k + 1)) t = sendL (xs.take k) t ++ [nxt t ⟨m, tr, nx⟩]) := Lib.hid (by rw [take_snoc' hxx, sendL_snoc])
    have hb0 : Below wr.heap.size wr (wr.alloc (.cells (oc ⟨⟨.slice q1 m.ks.length d1, .slice q2 m.ss.length d2, m⟩, tr, nx⟩) 36)) := (Below.refl _ wr).alloc (Nat.le_refl _) _
    have b9 := Box.new wr (oc ⟨⟨.slice q1 m.ks.length d1, .slice q2 m.ss.length d2, m⟩, tr, nx⟩) 36
    have HM := Lib.hid ((hm.below HP.out.below).below hb0)
    have HRO := Lib.hid (HP.out.ro.kept (F := fun _ => False) (kept_of_below hb0) (fun _ _ f => f) (fun _ _ f => f))
    have HRL := Lib.hid (HP.out.rl.kept (F := fun _ => False) (kept_of_below hb0) (fun _ _ f => f) (fun _ _ f => f))
    have HBW := Lib.hid (HP.out.below.trans (hb0.mono HP.out.below.size))
    have HOV : Hid (∀ b, u6.ownBlock = some b → b < wr.heap.size) := Lib.hid fun b e => (HP.out.ro.own.lt b e).2
    have HLV : Hid (∀ b, u7.ownBlock = some b → b < wr.heap.size) := Lib.hid fun b e => (HP.out.rl.own.lt b e).2
    have HWW := Lib.hid HP.out.below.size
    have hol := HP.out.lo
    have hll := HP.out.ll
    clear hx hxx hM hm hb0
    --ARMS
    --ARMS
    --ARMS
    --ARMS
    go_upto_region 7 with fail
    obtain ⟨W1, hW1⟩ : ∃ W1, (wr.alloc (.cells (oc ⟨⟨.slice q1 m.ks.length d1, .slice q2 m.ss.length d2, m⟩, tr, nx⟩) 36)) = W1 := ⟨_, rfl⟩
    rw [hW1] at b9 HM HRO HRL HBW ⊢
    have hl9 := b9.lt
    obtain ⟨t9, ht9⟩ : ∃ t9, wr.heap.size = t9 := ⟨_, rfl⟩
    rw [ht9] at b9 hl9 HOV HLV HWW ⊢
    have H9 := Lib.hid b9
    clear hW1 ht9 b9 x0 x1 x2 x3 x4 x5 x6
    go_wp2_with fail
    refine (rminute_any t _).mono ?_
    rintro e w2 ⟨rfl, rfl⟩
    obtain ⟨c9, f9⟩ := H9.out.rd
    cases hmin : minB t with
    | false =>
      have HEO : Hid (os.map Mr.m = sendO (xs.take (k + 1)) t) := Lib.hid (by rw [HTO.out, hmin]; simp [HP.out.eo])
      have HEL : Hid (sendL (xs.take (k + 1)) t = sendL (xs.take k) t ++ [Ow.pl ⟨⟨.slice q1 m.ks.length d1, .slice q2 m.ss.length d2, m⟩, tr, nx⟩]) := Lib.hid (by rw [HTL.out]; unfold nxt; rw [hmin]; rfl)
      clear hmin
      have HFIN : Hid (∀ (v2 : Value) (w2 : World), w2.ownsRow w.heap.size 36 7 v2 (ls ++ [(⟨⟨.slice q1 m.ks.length d1, .slice q2 m.ss.length d2, m⟩, tr, nx⟩ : Ow)]).length ((ls ++ [(⟨⟨.slice q1 m.ks.length d1, .slice q2 m.ss.length d2, m⟩, tr, nx⟩ : Ow)]).flatMap encO) → Kept (fun b => u7.ownBlock = some b) (W1.alloc (.cells (oc ⟨⟨.slice q1 m.ks.length d1, .slice q2 m.ss.length d2, m⟩, tr, nx⟩) 36)) w2 → (v2.ownBlock = u7.ownBlock ∨ v2.ownBlock = some (W1.alloc (.cells (oc ⟨⟨.slice q1 m.ks.length d1, .slice q2 m.ss.length d2, m⟩, tr, nx⟩) 36)).heap.size) → ∃ ls' : List Ow, PU A w xs t (k + 1) os ls' u6 v2 w2) := Lib.hid fun v2 w2 h1 h2 h3 => pv_end ⟨HEO.out, HP.out.el, HRO.out, HRL.out, HP.out.ne, HBW.out, Nat.le_succ_of_le HP.out.lo, HP.out.ll, HM.out, H9.out, HEL.out⟩ HA.out h1 h2 h3
      go_wp2_with (at_builtin; refine wpList_append_sl encO_len rfl (.tmp 50) (.tmp 52) 33 rfl w.heap.size 36 i0 _ 96 Try.underlying33 HI.out HI0.out HI1.out HI2.out rfl (by decide) (v := u7) (xs := ls) (ys := [⟨⟨.slice q1 m.ks.length d1, .slice q2 m.ss.length d2, m⟩, tr, nx⟩]) (by rfl) (by rfl) (owns_keep HRL.out.own (fun b e => Below.heap_alloc _ _ _ (HRL.out.own.lt b e).2)) (Sl.one (S := fun _ => True) encO_len (Box.new _ _ _) rfl trivial) (by simp [Value.oneCell']) (by simp only [List.length_cons, List.length_nil]; unfold maxLen; omega) (by simp only [List.length_cons, List.length_nil]; omega) (by have := HBW.out.size; rw [World.size_alloc]; omega) ?_; intro v2 w2 hown2 hk2 hat2; obtain ⟨ls', hls⟩ := HFIN.out v2 w2 hown2 hk2 hat2; clear hown2 hk2 hat2)
      exact ⟨⟨k + 1, os, ls', by simp, by omega, hls⟩, by simp [intOf]; omega⟩
    | true =>
      have ht0 : 0 ≤ t ∧ t ≤ 1099511627776 := by unfold minB at hmin; simpa using hmin
      by_cases hnx : nx ≤ t
      · have HEO : Hid (sendO (xs.take (k + 1)) t = sendO (xs.take k) t ++ [m]) := Lib.hid (by rw [HTO.out, hmin]; simp [hnx])
        have HEL : Hid (sendL (xs.take (k + 1)) t = sendL (xs.take k) t ++ [⟨m, tr + 1, t + mor tr⟩]) := Lib.hid (by rw [HTL.out]; unfold nxt step1 pmX; rw [hmin]; simp [hnx])
        have HW1 : Hid (IntKind.i64.wrap (tr + 1) = tr + 1) := Lib.hid (IntWalk.i64_in _ ⟨by omega, by omega⟩)
        have HNZ := Lib.hid hnx
        have HSND : Hid (∀ (v2 : Value) (w2 : World), w2.ownsRow w.heap.size 31 5 v2 (os ++ [(⟨.slice q1 m.ks.length d1, .slice q2 m.ss.length d2, m⟩ : Mr)]).length ((os ++ [(⟨.slice q1 m.ks.length d1, .slice q2 m.ss.length d2, m⟩ : Mr)]).flatMap encM) → Kept (fun b => u6.ownBlock = some b) (W1.alloc (.cells (mc ⟨.slice q1 m.ks.length d1, .slice q2 m.ss.length d2, m⟩) 31)) w2 → (v2.ownBlock = u6.ownBlock ∨ v2.ownBlock = some (W1.alloc (.cells (mc ⟨.slice q1 m.ks.length d1, .slice q2 m.ss.length d2, m⟩) 31)).heap.size) → Rrm w.heap.size A w2 v2 (os ++ [(⟨.slice q1 m.ks.length d1, .slice q2 m.ss.length d2, m⟩ : Mr)]) ∧ Rro w.heap.size A w2 u7 ls ∧ (∀ b, v2.ownBlock = some b → u7.ownBlock ≠ some b ∧ b ≠ t9) ∧ Below w.heap.size w w2 ∧ Box w2 t9 (oc ⟨⟨.slice q1 m.ks.length d1, .slice q2 m.ss.length d2, m⟩, tr, nx⟩) 36 ∧ Mo A w2 (⟨.slice q1 m.ks.length d1, .slice q2 m.ss.length d2, m⟩ : Mr)) := Lib.hid fun v2 w2 h1 h2 h3 => pu_send HP.out HRO.out HRL.out HBW.out HM.out H9.out (fun b e => by have := HOV.out b e; omega) (fun b e => by have := HLV.out b e; omega) HWW.out HA.out h1 h2 h3
        clear hmin
        obtain ⟨htz, htm⟩ := ht0
        rcases (show tr = 0 ∨ tr = 1 ∨ tr = 2 ∨ tr = 3 ∨ 4 ≤ tr by omega) with h4 | h4 | h4 | h4 | h4
        · subst h4
          have HW2 : Hid (IntKind.i64.wrap (t + 1) = (t + 1)) := Lib.hid (IntWalk.i64_in _ ⟨by omega, by omega⟩)
          have HMT : Hid (mor 0 = 1) := Lib.hid (by unfold mor; simp)
          go_wp2_with (first | (at_builtin; refine wpList_append_sl encM_len rfl (.tmp 29) (.tmp 32) 38 rfl w.heap.size 31 j0 _ 80 Try.underlying38 HJ.out HJ0.out HJ1.out HJ2.out rfl (by decide) (v := u6) (xs := os) (ys := [⟨.slice q1 m.ks.length d1, .slice q2 m.ss.length d2, m⟩]) (by rfl) (by rfl) (owns_keep HRO.out.own (fun b e => Below.heap_alloc _ _ _ (HRO.out.own.lt b e).2)) (Sl.one (S := fun _ => True) encM_len (Box.new _ _ _) rfl trivial) (by simp [Value.oneCell']) (by simp only [List.length_cons, List.length_nil]; unfold maxLen; omega) (by simp only [List.length_cons, List.length_nil]; omega) (by have := HBW.out.size; rw [World.size_alloc]; omega) ?_; intro v2 w2 hown2 hk2 hat2; obtain ⟨ho1, ho2, ho3, ho4, ho5, ho6⟩ := HSND.out v2 w2 hown2 hk2 hat2; have HO1 := Lib.hid ho1; have HO2 := Lib.hid ho2; have HO3 := Lib.hid ho3; have HO4 := Lib.hid ho4; have HO5 := Lib.hid ho5; have HO6 := Lib.hid ho6; obtain ⟨c9, f9⟩ := ho5.rd; have hl2 := ho5.lt; clear hown2 hk2 hat2 ho1 ho2 ho3 ho4 ho5 ho6) | (at_builtin; (obtain ⟨W5, hW5⟩ : ∃ W5, ((w2.setCell ⟨t9, 5, none⟩ (.int .i64 1)).setCell ⟨t9, 6, none⟩ (.int .i64 (t + 1))).alloc (.cells #[.int .i64 0, .int .i64 1, .int .i64 2, .int .i64 4, .int .i64 8] 3) = W5 := ⟨_, rfl⟩); (have hkc : Kept (fun b => b = t9) w2 W5 := (by rw [← hW5]; exact (((Kept.refl (fun b => b = t9) w2).setCell ⟨t9, 5, none⟩ (.int .i64 1) (fun _ => rfl)).setCell ⟨t9, 6, none⟩ (.int .i64 (t + 1)) (fun _ => rfl)).alloc _)); (have hbx : Box W5 t9 (oc ⟨⟨.slice q1 m.ks.length d1, .slice q2 m.ss.length d2, m⟩, 1, (t + 1)⟩) 36 := (by rw [← hW5]; exact Box.alloc ((HO5.out.set (i := 5) (.int .i64 1)).set (i := 6) (.int .i64 (t + 1))) _)); (have hs5 : W5.heap.size = w2.heap.size + 1 := (by rw [← hW5]; simp)); (have hpv := pv_put (k := k) (xs := xs) (t := t) HO1.out HO2.out HO3.out HO4.out HO6.out hkc hbx HWW.out (fun b e => HLV.out b e) HA.out (by rw [List.map_append, HP.out.eo, HEO.out]; rfl) HP.out.el (by have := HP.out.lo; simp; omega) HP.out.ll (by rw [HEL.out, HMT.out]; try rfl)); rw [hW5, ← hs5]; have HPV := Lib.hid hpv; clear hW5 hkc hbx hs5 hpv c9 f9 hl2; refine wpList_append_sl encO_len rfl (.tmp 50) (.tmp 52) 33 rfl w.heap.size 36 i0 _ 96 Try.underlying33 HI.out HI0.out HI1.out HI2.out rfl (by decide) (v := u7) (xs := ls) (ys := [⟨⟨.slice q1 m.ks.length d1, .slice q2 m.ss.length d2, m⟩, 1, (t + 1)⟩]) (by rfl) (by rfl) (owns_keep HPV.out.rl.own (fun b e => Below.heap_alloc _ _ _ (HPV.out.rl.own.lt b e).2)) (Sl.one (S := fun _ => True) encO_len (Box.new _ _ _) rfl trivial) (by simp [Value.oneCell']) (by simp only [List.length_cons, List.length_nil]; unfold maxLen; omega) (by simp only [List.length_cons, List.length_nil]; omega) (by have := HPV.out.below.size; rw [World.size_alloc]; omega) ?_; intro v3 w3 hown3 hk3 hat3; obtain ⟨ls', hls⟩ := pv_end HPV.out HA.out hown3 hk3 hat3; clear hown3 hk3 hat3))
          exact ⟨⟨k + 1, os ++ [⟨.slice q1 m.ks.length d1, .slice q2 m.ss.length d2, m⟩], ls', by simp, by omega, hls⟩, by simp [intOf]; omega⟩
        · subst h4
          have HW2 : Hid (IntKind.i64.wrap (t + 2) = (t + 2)) := Lib.hid (IntWalk.i64_in _ ⟨by omega, by omega⟩)
          have HMT : Hid (mor 1 = 2) := Lib.hid (by unfold mor; simp)
          go_wp2_with (first | (at_builtin; refine wpList_append_sl encM_len rfl (.tmp 29) (.tmp 32) 38 rfl w.heap.size 31 j0 _ 80 Try.underlying38 HJ.out HJ0.out HJ1.out HJ2.out rfl (by decide) (v := u6) (xs := os) (ys := [⟨.slice q1 m.ks.length d1, .slice q2 m.ss.length d2, m⟩]) (by rfl) (by rfl) (owns_keep HRO.out.own (fun b e => Below.heap_alloc _ _ _ (HRO.out.own.lt b e).2)) (Sl.one (S := fun _ => True) encM_len (Box.new _ _ _) rfl trivial) (by simp [Value.oneCell']) (by simp only [List.length_cons, List.length_nil]; unfold maxLen; omega) (by simp only [List.length_cons, List.length_nil]; omega) (by have := HBW.out.size; rw [World.size_alloc]; omega) ?_; intro v2 w2 hown2 hk2 hat2; obtain ⟨ho1, ho2, ho3, ho4, ho5, ho6⟩ := HSND.out v2 w2 hown2 hk2 hat2; have HO1 := Lib.hid ho1; have HO2 := Lib.hid ho2; have HO3 := Lib.hid ho3; have HO4 := Lib.hid ho4; have HO5 := Lib.hid ho5; have HO6 := Lib.hid ho6; obtain ⟨c9, f9⟩ := ho5.rd; have hl2 := ho5.lt; clear hown2 hk2 hat2 ho1 ho2 ho3 ho4 ho5 ho6) | (at_builtin; (obtain ⟨W5, hW5⟩ : ∃ W5, ((w2.setCell ⟨t9, 5, none⟩ (.int .i64 2)).setCell ⟨t9, 6, none⟩ (.int .i64 (t + 2))).alloc (.cells #[.int .i64 0, .int .i64 1, .int .i64 2, .int .i64 4, .int .i64 8] 3) = W5 := ⟨_, rfl⟩); (have hkc : Kept (fun b => b = t9) w2 W5 := (by rw [← hW5]; exact (((Kept.refl (fun b => b = t9) w2).setCell ⟨t9, 5, none⟩ (.int .i64 2) (fun _ => rfl)).setCell ⟨t9, 6, none⟩ (.int .i64 (t + 2)) (fun _ => rfl)).alloc _)); (have hbx : Box W5 t9 (oc ⟨⟨.slice q1 m.ks.length d1, .slice q2 m.ss.length d2, m⟩, 2, (t + 2)⟩) 36 := (by rw [← hW5]; exact Box.alloc ((HO5.out.set (i := 5) (.int .i64 2)).set (i := 6) (.int .i64 (t + 2))) _)); (have hs5 : W5.heap.size = w2.heap.size + 1 := (by rw [← hW5]; simp)); (have hpv := pv_put (k := k) (xs := xs) (t := t) HO1.out HO2.out HO3.out HO4.out HO6.out hkc hbx HWW.out (fun b e => HLV.out b e) HA.out (by rw [List.map_append, HP.out.eo, HEO.out]; rfl) HP.out.el (by have := HP.out.lo; simp; omega) HP.out.ll (by rw [HEL.out, HMT.out]; try rfl)); rw [hW5, ← hs5]; have HPV := Lib.hid hpv; clear hW5 hkc hbx hs5 hpv c9 f9 hl2; refine wpList_append_sl encO_len rfl (.tmp 50) (.tmp 52) 33 rfl w.heap.size 36 i0 _ 96 Try.underlying33 HI.out HI0.out HI1.out HI2.out rfl (by decide) (v := u7) (xs := ls) (ys := [⟨⟨.slice q1 m.ks.length d1, .slice q2 m.ss.length d2, m⟩, 2, (t + 2)⟩]) (by rfl) (by rfl) (owns_keep HPV.out.rl.own (fun b e => Below.heap_alloc _ _ _ (HPV.out.rl.own.lt b e).2)) (Sl.one (S := fun _ => True) encO_len (Box.new _ _ _) rfl trivial) (by simp [Value.oneCell']) (by simp only [List.length_cons, List.length_nil]; unfold maxLen; omega) (by simp only [List.length_cons, List.length_nil]; omega) (by have := HPV.out.below.size; rw [World.size_alloc]; omega) ?_; intro v3 w3 hown3 hk3 hat3; obtain ⟨ls', hls⟩ := pv_end HPV.out HA.out hown3 hk3 hat3; clear hown3 hk3 hat3))
          exact ⟨⟨k + 1, os ++ [⟨.slice q1 m.ks.length d1, .slice q2 m.ss.length d2, m⟩], ls', by simp, by omega, hls⟩, by simp [intOf]; omega⟩
        · subst h4
          have HW2 : Hid (IntKind.i64.wrap (t + 4) = (t + 4)) := Lib.hid (IntWalk.i64_in _ ⟨by omega, by omega⟩)
          have HMT : Hid (mor 2 = 4) := Lib.hid (by unfold mor; simp)
          go_wp2_with (first | (at_builtin; refine wpList_append_sl encM_len rfl (.tmp 29) (.tmp 32) 38 rfl w.heap.size 31 j0 _ 80 Try.underlying38 HJ.out HJ0.out HJ1.out HJ2.out rfl (by decide) (v := u6) (xs := os) (ys := [⟨.slice q1 m.ks.length d1, .slice q2 m.ss.length d2, m⟩]) (by rfl) (by rfl) (owns_keep HRO.out.own (fun b e => Below.heap_alloc _ _ _ (HRO.out.own.lt b e).2)) (Sl.one (S := fun _ => True) encM_len (Box.new _ _ _) rfl trivial) (by simp [Value.oneCell']) (by simp only [List.length_cons, List.length_nil]; unfold maxLen; omega) (by simp only [List.length_cons, List.length_nil]; omega) (by have := HBW.out.size; rw [World.size_alloc]; omega) ?_; intro v2 w2 hown2 hk2 hat2; obtain ⟨ho1, ho2, ho3, ho4, ho5, ho6⟩ := HSND.out v2 w2 hown2 hk2 hat2; have HO1 := Lib.hid ho1; have HO2 := Lib.hid ho2; have HO3 := Lib.hid ho3; have HO4 := Lib.hid ho4; have HO5 := Lib.hid ho5; have HO6 := Lib.hid ho6; obtain ⟨c9, f9⟩ := ho5.rd; have hl2 := ho5.lt; clear hown2 hk2 hat2 ho1 ho2 ho3 ho4 ho5 ho6) | (at_builtin; (obtain ⟨W5, hW5⟩ : ∃ W5, ((w2.setCell ⟨t9, 5, none⟩ (.int .i64 3)).setCell ⟨t9, 6, none⟩ (.int .i64 (t + 4))).alloc (.cells #[.int .i64 0, .int .i64 1, .int .i64 2, .int .i64 4, .int .i64 8] 3) = W5 := ⟨_, rfl⟩); (have hkc : Kept (fun b => b = t9) w2 W5 := (by rw [← hW5]; exact (((Kept.refl (fun b => b = t9) w2).setCell ⟨t9, 5, none⟩ (.int .i64 3) (fun _ => rfl)).setCell ⟨t9, 6, none⟩ (.int .i64 (t + 4)) (fun _ => rfl)).alloc _)); (have hbx : Box W5 t9 (oc ⟨⟨.slice q1 m.ks.length d1, .slice q2 m.ss.length d2, m⟩, 3, (t + 4)⟩) 36 := (by rw [← hW5]; exact Box.alloc ((HO5.out.set (i := 5) (.int .i64 3)).set (i := 6) (.int .i64 (t + 4))) _)); (have hs5 : W5.heap.size = w2.heap.size + 1 := (by rw [← hW5]; simp)); (have hpv := pv_put (k := k) (xs := xs) (t := t) HO1.out HO2.out HO3.out HO4.out HO6.out hkc hbx HWW.out (fun b e => HLV.out b e) HA.out (by rw [List.map_append, HP.out.eo, HEO.out]; rfl) HP.out.el (by have := HP.out.lo; simp; omega) HP.out.ll (by rw [HEL.out, HMT.out]; try rfl)); rw [hW5, ← hs5]; have HPV := Lib.hid hpv; clear hW5 hkc hbx hs5 hpv c9 f9 hl2; refine wpList_append_sl encO_len rfl (.tmp 50) (.tmp 52) 33 rfl w.heap.size 36 i0 _ 96 Try.underlying33 HI.out HI0.out HI1.out HI2.out rfl (by decide) (v := u7) (xs := ls) (ys := [⟨⟨.slice q1 m.ks.length d1, .slice q2 m.ss.length d2, m⟩, 3, (t + 4)⟩]) (by rfl) (by rfl) (owns_keep HPV.out.rl.own (fun b e => Below.heap_alloc _ _ _ (HPV.out.rl.own.lt b e).2)) (Sl.one (S := fun _ => True) encO_len (Box.new _ _ _) rfl trivial) (by simp [Value.oneCell']) (by simp only [List.length_cons, List.length_nil]; unfold maxLen; omega) (by simp only [List.length_cons, List.length_nil]; omega) (by have := HPV.out.below.size; rw [World.size_alloc]; omega) ?_; intro v3 w3 hown3 hk3 hat3; obtain ⟨ls', hls⟩ := pv_end HPV.out HA.out hown3 hk3 hat3; clear hown3 hk3 hat3))
          exact ⟨⟨k + 1, os ++ [⟨.slice q1 m.ks.length d1, .slice q2 m.ss.length d2, m⟩], ls', by simp, by omega, hls⟩, by simp [intOf]; omega⟩
        · subst h4
          have HW2 : Hid (IntKind.i64.wrap (t + 8) = (t + 8)) := Lib.hid (IntWalk.i64_in _ ⟨by omega, by omega⟩)
          have HMT : Hid (mor 3 = 8) := Lib.hid (by unfold mor; simp)
          go_wp2_with (first | (at_builtin; refine wpList_append_sl encM_len rfl (.tmp 29) (.tmp 32) 38 rfl w.heap.size 31 j0 _ 80 Try.underlying38 HJ.out HJ0.out HJ1.out HJ2.out rfl (by decide) (v := u6) (xs := os) (ys := [⟨.slice q1 m.ks.length d1, .slice q2 m.ss.length d2, m⟩]) (by rfl) (by rfl) (owns_keep HRO.out.own (fun b e => Below.heap_alloc _ _ _ (HRO.out.own.lt b e).2)) (Sl.one (S := fun _ => True) encM_len (Box.new _ _ _) rfl trivial) (by simp [Value.oneCell']) (by simp only [List.length_cons, List.length_nil]; unfold maxLen; omega) (by simp only [List.length_cons, List.length_nil]; omega) (by have := HBW.out.size; rw [World.size_alloc]; omega) ?_; intro v2 w2 hown2 hk2 hat2; obtain ⟨ho1, ho2, ho3, ho4, ho5, ho6⟩ := HSND.out v2 w2 hown2 hk2 hat2; have HO1 := Lib.hid ho1; have HO2 := Lib.hid ho2; have HO3 := Lib.hid ho3; have HO4 := Lib.hid ho4; have HO5 := Lib.hid ho5; have HO6 := Lib.hid ho6; obtain ⟨c9, f9⟩ := ho5.rd; have hl2 := ho5.lt; clear hown2 hk2 hat2 ho1 ho2 ho3 ho4 ho5 ho6) | (at_builtin; (obtain ⟨W5, hW5⟩ : ∃ W5, ((w2.setCell ⟨t9, 5, none⟩ (.int .i64 4)).setCell ⟨t9, 6, none⟩ (.int .i64 (t + 8))).alloc (.cells #[.int .i64 0, .int .i64 1, .int .i64 2, .int .i64 4, .int .i64 8] 3) = W5 := ⟨_, rfl⟩); (have hkc : Kept (fun b => b = t9) w2 W5 := (by rw [← hW5]; exact (((Kept.refl (fun b => b = t9) w2).setCell ⟨t9, 5, none⟩ (.int .i64 4) (fun _ => rfl)).setCell ⟨t9, 6, none⟩ (.int .i64 (t + 8)) (fun _ => rfl)).alloc _)); (have hbx : Box W5 t9 (oc ⟨⟨.slice q1 m.ks.length d1, .slice q2 m.ss.length d2, m⟩, 4, (t + 8)⟩) 36 := (by rw [← hW5]; exact Box.alloc ((HO5.out.set (i := 5) (.int .i64 4)).set (i := 6) (.int .i64 (t + 8))) _)); (have hs5 : W5.heap.size = w2.heap.size + 1 := (by rw [← hW5]; simp)); (have hpv := pv_put (k := k) (xs := xs) (t := t) HO1.out HO2.out HO3.out HO4.out HO6.out hkc hbx HWW.out (fun b e => HLV.out b e) HA.out (by rw [List.map_append, HP.out.eo, HEO.out]; rfl) HP.out.el (by have := HP.out.lo; simp; omega) HP.out.ll (by rw [HEL.out, HMT.out]; try rfl)); rw [hW5, ← hs5]; have HPV := Lib.hid hpv; clear hW5 hkc hbx hs5 hpv c9 f9 hl2; refine wpList_append_sl encO_len rfl (.tmp 50) (.tmp 52) 33 rfl w.heap.size 36 i0 _ 96 Try.underlying33 HI.out HI0.out HI1.out HI2.out rfl (by decide) (v := u7) (xs := ls) (ys := [⟨⟨.slice q1 m.ks.length d1, .slice q2 m.ss.length d2, m⟩, 4, (t + 8)⟩]) (by rfl) (by rfl) (owns_keep HPV.out.rl.own (fun b e => Below.heap_alloc _ _ _ (HPV.out.rl.own.lt b e).2)) (Sl.one (S := fun _ => True) encO_len (Box.new _ _ _) rfl trivial) (by simp [Value.oneCell']) (by simp only [List.length_cons, List.length_nil]; unfold maxLen; omega) (by simp only [List.length_cons, List.length_nil]; omega) (by have := HPV.out.below.size; rw [World.size_alloc]; omega) ?_; intro v3 w3 hown3 hk3 hat3; obtain ⟨ls', hls⟩ := pv_end HPV.out HA.out hown3 hk3 hat3; clear hown3 hk3 hat3))
          exact ⟨⟨k + 1, os ++ [⟨.slice q1 m.ks.length d1, .slice q2 m.ss.length d2, m⟩], ls', by simp, by omega, hls⟩, by simp [intOf]; omega⟩
        · have HW2 : Hid (IntKind.i64.wrap (t + 16) = (t + 16)) := Lib.hid (IntWalk.i64_in _ ⟨by omega, by omega⟩)
          have HMT : Hid (mor tr = 16) := Lib.hid (by unfold mor; rw [if_neg (by omega), if_neg (by omega), if_neg (by omega), if_neg (by omega)])
          have h44 : ¬ (tr + 1 ≤ 4) := by omega
          go_wp2_with (first | (at_builtin; refine wpList_append_sl encM_len rfl (.tmp 29) (.tmp 32) 38 rfl w.heap.size 31 j0 _ 80 Try.underlying38 HJ.out HJ0.out HJ1.out HJ2.out rfl (by decide) (v := u6) (xs := os) (ys := [⟨.slice q1 m.ks.length d1, .slice q2 m.ss.length d2, m⟩]) (by rfl) (by rfl) (owns_keep HRO.out.own (fun b e => Below.heap_alloc _ _ _ (HRO.out.own.lt b e).2)) (Sl.one (S := fun _ => True) encM_len (Box.new _ _ _) rfl trivial) (by simp [Value.oneCell']) (by simp only [List.length_cons, List.length_nil]; unfold maxLen; omega) (by simp only [List.length_cons, List.length_nil]; omega) (by have := HBW.out.size; rw [World.size_alloc]; omega) ?_; intro v2 w2 hown2 hk2 hat2; obtain ⟨ho1, ho2, ho3, ho4, ho5, ho6⟩ := HSND.out v2 w2 hown2 hk2 hat2; have HO1 := Lib.hid ho1; have HO2 := Lib.hid ho2; have HO3 := Lib.hid ho3; have HO4 := Lib.hid ho4; have HO5 := Lib.hid ho5; have HO6 := Lib.hid ho6; obtain ⟨c9, f9⟩ := ho5.rd; have hl2 := ho5.lt; clear hown2 hk2 hat2 ho1 ho2 ho3 ho4 ho5 ho6) | (at_builtin; (obtain ⟨W5, hW5⟩ : ∃ W5, ((w2.setCell ⟨t9, 5, none⟩ (.int .i64 (tr + 1))).setCell ⟨t9, 6, none⟩ (.int .i64 (t + 16))) = W5 := ⟨_, rfl⟩); (have hkc : Kept (fun b => b = t9) w2 W5 := (by rw [← hW5]; exact ((Kept.refl (fun b => b = t9) w2).setCell ⟨t9, 5, none⟩ (.int .i64 (tr + 1)) (fun _ => rfl)).setCell ⟨t9, 6, none⟩ (.int .i64 (t + 16)) (fun _ => rfl))); (have hbx : Box W5 t9 (oc ⟨⟨.slice q1 m.ks.length d1, .slice q2 m.ss.length d2, m⟩, (tr + 1), (t + 16)⟩) 36 := (by rw [← hW5]; exact (HO5.out.set (i := 5) (.int .i64 (tr + 1))).set (i := 6) (.int .i64 (t + 16)))); (have hs5 : W5.heap.size = w2.heap.size := (by rw [← hW5]; simp)); (have hpv := pv_put (k := k) (xs := xs) (t := t) HO1.out HO2.out HO3.out HO4.out HO6.out hkc hbx HWW.out (fun b e => HLV.out b e) HA.out (by rw [List.map_append, HP.out.eo, HEO.out]; rfl) HP.out.el (by have := HP.out.lo; simp; omega) HP.out.ll (by rw [HEL.out, HMT.out]; try rfl)); rw [hW5, ← hs5]; have HPV := Lib.hid hpv; clear hW5 hkc hbx hs5 hpv c9 f9 hl2; refine wpList_append_sl encO_len rfl (.tmp 50) (.tmp 52) 33 rfl w.heap.size 36 i0 _ 96 Try.underlying33 HI.out HI0.out HI1.out HI2.out rfl (by decide) (v := u7) (xs := ls) (ys := [⟨⟨.slice q1 m.ks.length d1, .slice q2 m.ss.length d2, m⟩, (tr + 1), (t + 16)⟩]) (by rfl) (by rfl) (owns_keep HPV.out.rl.own (fun b e => Below.heap_alloc _ _ _ (HPV.out.rl.own.lt b e).2)) (Sl.one (S := fun _ => True) encO_len (Box.new _ _ _) rfl trivial) (by simp [Value.oneCell']) (by simp only [List.length_cons, List.length_nil]; unfold maxLen; omega) (by simp only [List.length_cons, List.length_nil]; omega) (by have := HPV.out.below.size; rw [World.size_alloc]; omega) ?_; intro v3 w3 hown3 hk3 hat3; obtain ⟨ls', hls⟩ := pv_end HPV.out HA.out hown3 hk3 hat3; clear hown3 hk3 hat3))
          exact ⟨⟨k + 1, os ++ [⟨.slice q1 m.ks.length d1, .slice q2 m.ss.length d2, m⟩], ls', by simp, by omega, hls⟩, by simp [intOf]; omega⟩
      · have HEO : Hid (os.map Mr.m = sendO (xs.take (k + 1)) t) := Lib.hid (by rw [HTO.out, hmin]; simp [hnx, HP.out.eo])
        have HEL : Hid (sendL (xs.take (k + 1)) t = sendL (xs.take k) t ++ [Ow.pl ⟨⟨.slice q1 m.ks.length d1, .slice q2 m.ss.length d2, m⟩, tr, nx⟩]) := Lib.hid (by rw [HTL.out]; unfold nxt step1; rw [hmin]; simp [hnx]; rfl)
        have hnx' : t < nx := by omega
        clear hmin hnx ht0
        have HFIN : Hid (∀ (v2 : Value) (w2 : World), w2.ownsRow w.heap.size 36 7 v2 (ls ++ [(⟨⟨.slice q1 m.ks.length d1, .slice q2 m.ss.length d2, m⟩, tr, nx⟩ : Ow)]).length ((ls ++ [(⟨⟨.slice q1 m.ks.length d1, .slice q2 m.ss.length d2, m⟩, tr, nx⟩ : Ow)]).flatMap encO) → Kept (fun b => u7.ownBlock = some b) (W1.alloc (.cells (oc ⟨⟨.slice q1 m.ks.length d1, .slice q2 m.ss.length d2, m⟩, tr, nx⟩) 36)) w2 → (v2.ownBlock = u7.ownBlock ∨ v2.ownBlock = some (W1.alloc (.cells (oc ⟨⟨.slice q1 m.ks.length d1, .slice q2 m.ss.length d2, m⟩, tr, nx⟩) 36)).heap.size) → ∃ ls' : List Ow, PU A w xs t (k + 1) os ls' u6 v2 w2) := Lib.hid fun v2 w2 h1 h2 h3 => pv_end ⟨HEO.out, HP.out.el, HRO.out, HRL.out, HP.out.ne, HBW.out, Nat.le_succ_of_le HP.out.lo, HP.out.ll, HM.out, H9.out, HEL.out⟩ HA.out h1 h2 h3
        go_wp2_with (at_builtin; refine wpList_append_sl encO_len rfl (.tmp 50) (.tmp 52) 33 rfl w.heap.size 36 i0 _ 96 Try.underlying33 HI.out HI0.out HI1.out HI2.out rfl (by decide) (v := u7) (xs := ls) (ys := [⟨⟨.slice q1 m.ks.length d1, .slice q2 m.ss.length d2, m⟩, tr, nx⟩]) (by rfl) (by rfl) (owns_keep HRL.out.own (fun b e => Below.heap_alloc _ _ _ (HRL.out.own.lt b e).2)) (Sl.one (S := fun _ => True) encO_len (Box.new _ _ _) rfl trivial) (by simp [Value.oneCell']) (by simp only [List.length_cons, List.length_nil]; unfold maxLen; omega) (by simp only [List.length_cons, List.length_nil]; omega) (by have := HBW.out.size; rw [World.size_alloc]; omega) ?_; intro v2 w2 hown2 hk2 hat2; obtain ⟨ls', hls⟩ := HFIN.out v2 w2 hown2 hk2 hat2; clear hown2 hk2 hat2)
        exact ⟨⟨k + 1, os, ls', by simp, by omega, hls⟩, by simp [intOf]; omega⟩
  · obtain rfl : k = ms.length := by omega
    obtain ⟨p1, d1, e1⟩ := owns_slice HP.out.ro.own
    obtain ⟨p2, d2, e2⟩ := owns_slice HP.out.rl.own
    subst e1 e2
    go_wp2_with fail
    go_ret2
    exact ⟨_, _, os, ls, rfl, by rw [HXL.out]; exact HP.out⟩
end Go.Proofs.Ytfaafndaelmbfaa
