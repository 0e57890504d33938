/- A map of counts that the call makes; owe.met. -/
import Derived.Test.YtajflljemfgkiaaEBas
import Derived.Test.YtajflljemfgkiaaQLast
import Derived.Maps.OwnOps
import Derived.Maps.OwnSet
import Derived.Maps.Views
import Derived.StringKeys
namespace Go.Proofs.Ytajflljemfgkiaa
open Go.RowKit Go.Maps
attribute [local go_sem] Oper.semAt_some

theorem law_string : Keyed Try.prog 9 := string_keyed Try.underlying9
theorem zero_int (w : World) : (zeroValue 3).run Try.prog w = .ok (.int .i64 0) w := by kernel_rfl
abbrev kl (s : ByteArray) : Lit := .string s.data.toList
theorem kl_ne {s t : ByteArray} (h : s ≠ t) : kl s ≠ kl t := fun e => h (by
  obtain ⟨⟨a⟩⟩ := s
  obtain ⟨⟨b⟩⟩ := t
  simp only [Lit.string.injEq] at e
  subst e
  rfl)
theorem kl_key {s : ByteArray} (h : s.size ≤ maxLen) : keyOf Try.prog 9 (.string s) = some (kl s) := Go.WideMaps.keyOf_string_mk Try.underlying9 h
/-- block b: a map of at most n entries; f: what it counts of each key -/
def MapAt (W : World) (b n : Nat) (f : ByteArray → Int) : Prop := ∃ D : DataW Nat, W.ownsMap Try.prog 9 (plainElem Try.prog 3) b n D ∧ ∀ s, D.atKey (kl s) (.lit (.int .i64 0)) = .lit (.int .i64 (f s))
def cnt0 (l : List ByteArray) (s : ByteArray) : Int := (l.filter (fun x => decide (x = s))).length
theorem cnt0_snoc (l : List ByteArray) (x s : ByteArray) : cnt0 (l ++ [x]) s = cnt0 l s + if x = s then 1 else 0 := by
  unfold cnt0
  rw [List.filter_append, List.length_append]
  by_cases h : x = s <;> simp [h]
theorem cnt0_pos (l : List ByteArray) (s : ByteArray) : 0 < cnt0 l s ↔ s ∈ l := by
  unfold cnt0
  constructor
  · intro h
    have : 0 < (l.filter (fun x => decide (x = s))).length := by omega
    obtain ⟨x, hx⟩ := List.exists_mem_of_length_pos this
    obtain ⟨h1, h2⟩ := List.mem_filter.1 hx
    have : x = s := by simpa using h2
    exact this ▸ h1
  · intro h
    have : s ∈ l.filter (fun x => decide (x = s)) := List.mem_filter.2 ⟨h, by simp⟩
    have := List.length_pos_of_mem this
    omega
theorem cnt0_le (l : List ByteArray) (s : ByteArray) : 0 ≤ cnt0 l s ∧ cnt0 l s ≤ l.length := by
  unfold cnt0
  have := List.length_filter_le (fun x => decide (x = s)) l
  omega
section
variable {W W' : World} {b n : Nat} {f : ByteArray → Int}
theorem MapAt.lt (h : MapAt W b n f) : b < W.heap.size := by
  obtain ⟨D, h1, _⟩ := h
  exact h1.lt
theorem MapAt.keep (h : MapAt W b n f) (hk : W'.heap[b]? = W.heap[b]?) : MapAt W' b n f := by
  obtain ⟨D, ⟨es, clock, hb, F, hs, hD⟩, h2⟩ := h
  exact ⟨D, ⟨es, clock, hk.trans hb, F, hs, hD⟩, h2⟩
theorem MapAt.below (h : MapAt W b n f) (hb : Below W.heap.size W W') : MapAt W' b n f := h.keep (hb.block _ h.lt)
theorem MapAt.kept {F : Nat → Prop} (h : MapAt W b n f) (hk : Kept F W W') (hf : ¬ F b) : MapAt W' b n f := h.keep (hk.block _ h.lt hf)
theorem MapAt.mono {m : Nat} (h : MapAt W b n f) (hn : n ≤ m) : MapAt W b m f := by
  obtain ⟨D, h1, h2⟩ := h
  exact ⟨D, h1.mono hn, h2⟩
theorem MapAt.made (W : World) : MapAt (W.alloc (.map #[] 0)) W.heap.size 0 (fun _ => 0) :=
  ⟨.map [], World.ownsMap_made _ _ _ _, fun _ => rfl⟩
/-- a look-up, as an equation -/
theorem MapAt.look (h : MapAt W b n f) {s : ByteArray} (hs : s.size ≤ maxLen) : (Instr.lookup 54 (.map (some b)) (.string s) false).run Try.prog W = .ok (.int .i64 (f s)) W := by
  obtain ⟨D, h1, h2⟩ := h
  obtain ⟨c, hrun, hat, _⟩ := h1.lookup_int law_string Try.underlying54 Try.underlying3 (zero_int _) (kl_key hs)
  rw [h2 s] at hat
  have : f s = c := by simpa using hat
  rw [this]
  exact hrun
/-- a store -/
theorem MapAt.put (h : MapAt W b n f) (hn : n < maxLen) {s : ByteArray} (hs : s.size ≤ maxLen) {c : Int} (hc : (Lit.int .i64 c).wf = true) :
    ∃ w', (Instr.mapUpdate 54 (.map (some b)) (.string s) (.int .i64 c)).run Try.prog W = .ok () w' ∧ MapAt w' b (n + 1) (fun t => if t = s then c else f t) ∧ Kept (fun x => x = b) W w' := by
  obtain ⟨D, h1, h2⟩ := h
  obtain ⟨w', hrun, h3, hg⟩ := h1.update law_string Try.underlying54 hn (kl_key hs) (plainElem_int Try.underlying3 hc)
  refine ⟨w', hrun, ⟨_, h3, fun t => ?_⟩, ⟨hg.os, hg.tape, hg.output, hg.size, fun k hk hf => hg.block k hk (fun e => hf (by cases e; rfl))⟩⟩
  by_cases ht : t = s
  · subst ht
    show _ = DataW.lit (.int .i64 (if t = t then c else f t))
    rw [atKey_put_same h1.isMap (by exact trivial), if_pos rfl]
  · show _ = DataW.lit (.int .i64 (if t = s then c else f t))
    rw [atKey_put_other (kl_ne ht), h2 t, if_neg ht]
end
def MetTo (l : List ByteArray) (w : World) (e : Ending) (w' : World) : Prop := ∃ b, e = .returned (.map (some b)) ∧ w.heap.size ≤ b ∧ MapAt w' b l.length (cnt0 l) ∧ Below w.heap.size w w'
theorem step_update {ops : Array Oper} {rest : List Oper} {o : Oper} {a : Act} {Q : Exit → Act → World → Prop} {W : World} {b n : Nat} {f : ByteArray → Int} {s : ByteArray} {c : Int} (hg : o.guard = none) (m x v : Operand) (hop : o.op = Op.mapUpdate 54 m x v)
    (hm : a.eval m = .map (some b)) (hx : a.eval x = .string s) (hv : a.eval v = .int .i64 c) (h : MapAt W b n f) (hn : n < maxLen) (hs : s.size ≤ maxLen) (hc : (Lit.int .i64 c).wf = true)
    (hK : ∀ w', MapAt w' b (n + 1) (fun t => if t = s then c else f t) → Kept (fun x => x = b) W w' → wpList Try.prog ops Q rest (a.put o.dst undef) w') : wpList Try.prog ops Q (o :: rest) a W := by
  refine wpList_plain hg fun K' hK' => ?_
  obtain ⟨w', hrun, r1, r2⟩ := h.put hn hs hc
  unfold Oper.wp
  simp [execOp, hop, hm, hx, hv, hrun, Result.andThen]
  exact hK' _ _ (hK w' r1 r2)
theorem cnt_fun (l : List ByteArray) (x : ByteArray) : (fun t => if t = x then cnt0 l x + 1 else cnt0 l t) = cnt0 (l ++ [x]) := by
  funext t
  rw [cnt0_snoc]
  by_cases h : t = x
  · subst h
    simp
  · have : ¬ x = t := fun e => h e.symm
    simp [h, this]
set_option maxRecDepth 100000 in
set_option maxHeartbeats 2000000 in
theorem met_any {S : Nat → Prop} {v : Value} {l : List ByteArray} {w : World} (h : Sl S w v 1 encS l) (hn : l.length ≤ 100000) (hs : ∀ s ∈ l, s.size ≤ maxLen) : Calls Try.prog 25 #[v] w (MetTo l w) := by
  obtain ⟨p, c, rfl, -, -⟩ := h.len
  have HL := Lib.hid h
  have HS := Lib.hid hs
  have hmm := @run_makeMap Try.prog
  clear h hs
  go_enter Try.func25, Try.ntmps25
  go_wp2_with fail
  have hb0 : Below w.heap.size w (w.alloc (.map #[] 0)) := (Below.refl _ w).alloc (Nat.le_refl _) _
  have hm0 : MapAt (w.alloc (.map #[] 0)) w.heap.size 0 (cnt0 []) := MapAt.made w
  obtain ⟨b, hbq⟩ : ∃ b, b = w.heap.size := ⟨_, rfl⟩
  have hbs : w.heap.size ≤ b := by omega
  rw [← hbq] at hm0 ⊢
  clear hbq hmm
  go_loopw [5, 9] (fun _ iv_ wr => ∃ k : Nat, iv_ = .int .i64 k ∧ k ≤ l.length ∧ MapAt wr b k (cnt0 (l.take k)) ∧ Below w.heap.size w wr) (fun _ iv_ _ => l.length - (intOf iv_).toNat)
  · exact ⟨0, rfl, by omega, hm0, hb0⟩
  clear hm0 hb0
  obtain ⟨k, rfl, hk, hM, hB⟩ := hrel
  have HB := Lib.hid hB
  clear hB
  by_cases hlt : k < l.length
  · obtain ⟨x, hx⟩ : ∃ x, l[k]? = some x := ⟨_, List.getElem?_eq_getElem hlt⟩
    obtain ⟨ad, rfl, -, -, hrow⟩ := (HL.out.below HB.out).at hx
    have x0 := hrow k _ hx 0 _ rfl
    rw [Addr.add_zero', Nat.mul_one] at x0
    have hkk : (k : Int) < (l.length : Int) := by omega
    have hxs := HS.out x (List.mem_of_getElem? hx)
    have hlook := hM.look hxs
    have HC : Hid ((fun t => if t = x then cnt0 (l.take k) x + 1 else cnt0 (l.take k) t) = cnt0 (l.take (k + 1))) := Lib.hid (by rw [take_snoc' hx]; exact cnt_fun _ _)
    have hcl := cnt0_le (l.take k) x
    rw [List.length_take] at hcl
    obtain ⟨N, hN⟩ : ∃ N, cnt0 (l.take k) x = N := ⟨_, rfl⟩
    rw [hN] at hlook HC hcl
    have hN1 : 0 ≤ N ∧ N ≤ 100000 := by omega
    have hwf : (Lit.int .i64 (N + 1)).wf = true := WalkArith.wf_i64 (by omega)
    have HM := Lib.hid hM
    have HWF := Lib.hid hwf
    have HXS := Lib.hid hxs
    clear hrow hx hN hcl hM hwf hxs
    go_wp2_with (at_mapUpdate; refine step_update rfl _ _ _ rfl rfl rfl rfl HM.out (by unfold maxLen; omega) HXS.out HWF.out ?_; intro w1 hM1 hk1)
    rw [HC.out] at hM1
    have HM1 := Lib.hid hM1
    have HB1 := Lib.hid (HB.out.trans (hk1.below (fun i e => by omega) HB.out.size))
    exact ⟨⟨k + 1, by simp, by omega, HM1.out, HB1.out⟩, by simp [intOf]; omega⟩
  · obtain rfl : k = l.length := by omega
    rw [List.take_length] at hM
    go_wp2_with fail
    go_ret
    exact ⟨_, rfl, hbs, hM, HB.out⟩
end Go.Proofs.Ytajflljemfgkiaa
