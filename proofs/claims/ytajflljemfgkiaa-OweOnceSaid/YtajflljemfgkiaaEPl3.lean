/- Plain laws of what was told and is due again -/
import Derived.Test.YtajflljemfgkiaaEPln
import Derived.Test.YtajflljemfgkiaaEOth
namespace Go.Proofs.Ytajflljemfgkiaa
open Mut
theorem key_only {l : List Al} (hn : (l.map Al.by_).Nodup) {k : Nat} {x y : Al} (h : l[k]? = some x) (hy : y ∈ l) (he : y.by_ = x.by_) : y = x := by
  obtain ⟨i, hi⟩ := List.getElem?_of_mem hy
  have e1 : (l.map Al.by_)[i]? = some y.by_ := by rw [List.getElem?_map, hi]; rfl
  have e2 : (l.map Al.by_)[k]? = some y.by_ := by rw [List.getElem?_map, h, he]; rfl
  have hl := (List.getElem?_eq_some_iff.1 e1).1
  have := (List.getElem?_inj hl hn).1 (e1.trans e2.symm)
  subst this
  rw [hi] at h
  exact Option.some.inj h
theorem due_one {R : Rl} {ms : List MuteD} {l : List Al} {n : Int} {k : Nat} {x : Al} (hn : (l.map Al.by_).Nodup) (h : l[k]? = some x) : hasK (dueL R ms l n) x.by_ = (!mutedB ms R.mutes n && dueB R.rep n x) := by
  rw [Bool.eq_iff_iff, hasK_iff, dueL_mem]
  constructor
  · rintro ⟨hm, y, hy, hd, he⟩
    rw [key_only hn h hy he] at hd
    simp [hm, hd]
  · intro hh
    rw [Bool.and_eq_true, Bool.not_eq_true'] at hh
    exact ⟨hh.1, x, List.mem_of_getElem? h, hh.2, rfl⟩
theorem tell1_by (ks : List ByteArray) (n : Int) (x : Al) : (tell1 ks n x).by_ = x.by_ := by
  unfold tell1
  split <;> rfl
theorem tellL_by (l : List Al) (ks : List ByteArray) (n : Int) : (tellL l ks n).map Al.by_ = l.map Al.by_ := by
  unfold tellL
  rw [List.map_map]
  exact List.map_congr_left fun x _ => tell1_by ks n x
/-- what was told is not due at that instant any more -/
theorem told_none {R : Rl} {ms : List MuteD} {l : List Al} {n : Int} (h0 : 0 ≤ n) (h1 : 1 ≤ R.rep) : dueL R ms (tellL l (dueL R ms l n) n) n = [] := by
  refine List.eq_nil_iff_forall_not_mem.2 fun s hs => ?_
  rw [dueL_mem] at hs
  obtain ⟨hm, y, hy, hd, -⟩ := hs
  unfold tellL at hy
  obtain ⟨x, hx, rfl⟩ := List.mem_map.1 hy
  cases hh : hasK (dueL R ms l n) x.by_ with
  | true =>
    have e : tell1 (dueL R ms l n) n x = ⟨x.rule, x.by_, x.state, x.since, n⟩ := by unfold tell1; rw [hh]; rfl
    rw [e] at hd
    unfold dueB at hd
    simp only [Bool.and_eq_true, Bool.or_eq_true, decide_eq_true_eq] at hd
    omega
  | false =>
    have e : tell1 (dueL R ms l n) n x = x := by unfold tell1; rw [hh]; rfl
    rw [e] at hd
    have : x.by_ ∈ dueL R ms l n := dueL_mem.2 ⟨hm, x, hx, hd, rfl⟩
    rw [hasK_iff.2 this] at hh
    cases hh
theorem once_not {R : Rl} {ms : List MuteD} {l : List Al} {n m : Int} {k : Nat} {x : Al} (hn : (l.map Al.by_).Nodup) (h : l[k]? = some x) (hd : hasK (dueL R ms l n) x.by_ = false) : hasK (dueL R ms (tellL l (dueL R ms l n) n) m) x.by_ = hasK (dueL R ms l m) x.by_ := by
  have e : tell1 (dueL R ms l n) n x = x := by unfold tell1; rw [hd]; rfl
  have hx := tellL_at (keys := dueL R ms l n) (at_ := n) h
  rw [e] at hx
  rw [due_one hn h, due_one (by rw [tellL_by]; exact hn) hx]
theorem once_due {R : Rl} {ms : List MuteD} {l : List Al} {n m : Int} {k : Nat} {x : Al} (hn : (l.map Al.by_).Nodup) (h : l[k]? = some x) (h0 : 0 ≤ n) (hm : 0 ≤ m) (hd : hasK (dueL R ms l n) x.by_ = true) : hasK (dueL R ms (tellL l (dueL R ms l n) n) (n + m)) x.by_ = (hasK (dueL R ms l (n + m)) x.by_ && decide (R.rep ≤ m)) ∧ x.state = 2 := by
  have e : tell1 (dueL R ms l n) n x = ⟨x.rule, x.by_, x.state, x.since, n⟩ := by unfold tell1; rw [hd]; rfl
  have hx := tellL_at (keys := dueL R ms l n) (at_ := n) h
  rw [e] at hx
  have hq := due_one (R := R) (ms := ms) (n := n + m) (by rw [tellL_by]; exact hn) hx
  simp only at hq
  rw [hq, due_one hn h]
  rw [due_one hn h] at hd
  unfold dueB at *
  simp only [Bool.and_eq_true, Bool.or_eq_true, decide_eq_true_eq] at hd
  obtain ⟨-, h2, h3⟩ := hd
  refine ⟨?_, h2⟩
  have e1 : (decide (x.told < 0) || decide (R.rep ≤ n + m - x.told)) = true := by
    simp only [Bool.or_eq_true, decide_eq_true_eq]
    omega
  have e2 : (decide (n < 0) || decide (R.rep ≤ n + m - n)) = decide (R.rep ≤ m) := by
    rw [Bool.eq_iff_iff]
    simp only [Bool.or_eq_true, decide_eq_true_eq]
    omega
  simp only
  rw [e1, e2]
  simp [h2]
end Go.Proofs.Ytajflljemfgkiaa
