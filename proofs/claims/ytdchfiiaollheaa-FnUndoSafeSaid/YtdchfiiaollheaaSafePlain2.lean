/- In a safe flow nothing stays: plain laws. -/
import Derived.Test.YtdchfiiaollheaaSafePlain
import Derived.Test.YtdchfiiaollheaaUndoPlain
namespace Go.Proofs.Ytdchfiiaollheaa

section
variable {v : Int} {l : List Stp}
theorem order_ready (hf : flowB v l = true) {i : Nat} {x : ByteArray} (hx : (orderP l)[i]? = some x) : inB (readyP l ((orderP l).take i)) x = true := by
  have ho := (flowB_iff.1 hf).2.2.2.2
  have hi : i < l.length := by have := (List.getElem?_eq_some_iff.1 hx).1; rw [ho] at this; exact this
  obtain ⟨y, r, hr, hy, ht⟩ := orderN_ready ho hi
  rw [hx] at hy
  cases hy
  rw [← ht, hr]
  exact inB_iff.2 (by simp)
theorem order_run (hf : flowB v l = true) {i : Nat} (hi : i < l.length) : runB v l 0 ((orderP l).take i) = true := by
  have ho := (flowB_iff.1 hf).2.2.2.2
  refine runB_iff.2 ⟨hf, doneB_iff.2 fun j hj => ?_, ?_⟩
  · simp at hj
    have hj2 : (orderP l)[j]? = some (orderP l)[j] := List.getElem?_eq_getElem (by omega)
    have := order_ready hf hj2
    unfold doneAt
    rw [List.getElem?_take, if_pos (by omega), hj2, List.take_take, show min j i = j by omega]
    exact this
  · unfold stateB
    simp
    omega
theorem safe_undo (hs : safeB v l = true) {j : Nat} {x : ByteArray} (hx : (orderP l)[j]? = some x) (hj : j + 1 < l.length) : undoB l x = true := by
  obtain ⟨hf, H⟩ := safeB_iff.1 hs
  have ho := ord_of hf
  have hN := flow_nodup hf
  obtain ⟨k, af, u, _, _, hp, hu⟩ := atP ((ho.names x).1 (List.mem_of_getElem? hx))
  rw [hu]
  cases u
  · exfalso
    obtain ⟨y, hy⟩ : ∃ y, (orderP l)[l.length - 1]? = some y := ⟨_, List.getElem?_eq_getElem (by rw [ho.len]; omega)⟩
    obtain ⟨q, hq, rfl⟩ := List.mem_map.1 ((ho.names y).1 (List.mem_of_getElem? hy))
    have hne : q.name ≠ x := fun e => by
      rw [e] at hy
      have := ho.inj hx hy
      omega
    have hb := H _ (List.mem_of_getElem? hp) rfl q hq hne
    have := ho.later hN hb _ _ hy hx
    omega
  · rfl
theorem safe_left (hs : safeB v l = true) {k : Nat} (hk : k < l.length) : leftP v l 0 ((orderP l).take k) = [] := by
  obtain ⟨hf, _⟩ := safeB_iff.1 hs
  have ho := ord_of hf
  rw [leftP_some (order_run hf hk) (by decide), firm_all (fun s hm => by
    obtain ⟨j, hj, hjo⟩ := mem_take_at hm
    exact safe_undo hs hjo (by omega))]
  rfl
end

end Go.Proofs.Ytdchfiiaollheaa
