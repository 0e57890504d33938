/- Plain law: a rule is muted just if one of its mutes is silent -/
import Derived.Test.YtajflljemfgkiaaEPln
namespace Go.Proofs.Ytajflljemfgkiaa
open Mut
def silB (ms : List MuteD) (names : List ByteArray) (n : Int) : Bool := ms.any fun m => hasK names m.nm && sil m n
theorem muted_sil {ms : List MuteD} {names : List ByteArray} {n : Int} (hnd : (ms.map MuteD.nm).Nodup) : mutedB ms names n = silB ms names n := by
  rw [mutedB_hit, Bool.eq_iff_iff]
  unfold silB
  rw [List.any_eq_true, List.any_eq_true]
  constructor
  · rintro ⟨s, hs, h⟩
    unfold hitB at h
    cases hf : ms.find? (isNm s) with
    | none => rw [hf] at h; cases h
    | some m =>
      rw [hf] at h
      have hm := List.mem_of_find?_eq_some hf
      have hn : m.nm = s := by
        have := List.find?_some hf
        unfold isNm at this
        simpa using this
      refine ⟨m, hm, ?_⟩
      rw [hn, hasK_iff.2 hs]
      simpa using h
  · rintro ⟨m, hm, h⟩
    rw [Bool.and_eq_true] at h
    refine ⟨m.nm, hasK_iff.1 h.1, ?_⟩
    obtain ⟨j, hj⟩ := List.getElem?_of_mem hm
    have hf : ms.find? (isNm m.nm) = some m := by
      refine find_at' hj (by unfold isNm; simp) (fun y hy => ?_)
      obtain ⟨i, hi⟩ := List.getElem?_of_mem hy
      have hij : i < j := by
        have h1 := (List.getElem?_eq_some_iff.1 hi).1
        rw [List.length_take] at h1
        omega
      rw [List.getElem?_take_of_lt hij] at hi
      unfold isNm
      rw [decide_eq_false_iff_not]
      intro e
      have e1 : (ms.map MuteD.nm)[i]? = some y.nm := by rw [List.getElem?_map, hi]; rfl
      have e2 : (ms.map MuteD.nm)[j]? = some y.nm := by rw [List.getElem?_map, hj, e]; rfl
      have hl := (List.getElem?_eq_some_iff.1 e1).1
      have := (List.getElem?_inj hl hnd).1 (e1.trans e2.symm)
      omega
    unfold hitB
    rw [hf]
    exact h.2
end Go.Proofs.Ytajflljemfgkiaa
