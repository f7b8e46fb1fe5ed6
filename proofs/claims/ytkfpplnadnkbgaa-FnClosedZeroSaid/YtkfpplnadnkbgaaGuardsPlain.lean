/- Plain laws of valid guards. No program is in sight here. -/
import Derived.Test.YtkfpplnadnkbgaaGuards
namespace Go.Proofs.Ytkfpplnadnkbgaa

theorem guardsB_iff {l : List R3} : guardsB l = true ↔ okAll okG ltR l = true ∧ l.length ≤ 8 := by
  unfold guardsB; rw [Bool.and_eq_true, decide_eq_true_iff]

theorem guards_less {l : List R3} (h : guardsB l = true) (k : Nat) : guardsB (l.take k ++ l.drop (k + 1)) = true := by
  rw [guardsB_iff] at h ⊢
  have hs : (l.take k ++ l.drop (k + 1)).Sublist l := by
    have h1 : (l.take k ++ l.drop (k + 1)).Sublist (l.take k ++ l.drop k) := List.Sublist.append (List.Sublist.refl _) (by rw [← List.drop_drop]; exact List.drop_sublist _ _)
    rwa [List.take_append_drop] at h1
  exact ⟨okAll_sub ltR_trans hs h.1, Nat.le_trans hs.length_le h.2⟩

theorem guards_twice (l : List R3) (k : Nat) (hk : k < l.length) : guardsB (l.take (k + 1) ++ l.drop k) = false := by
  unfold guardsB
  rw [List.take_succ_eq_append_getElem hk, List.drop_eq_getElem_cons hk, List.append_assoc, List.singleton_append, okAll_twice ltR_trans ltR_irrefl]
  rfl

theorem guards_mem {l : List R3} (h : guardsB l = true) {r : R3} (hr : r ∈ l) : 0 ≤ r.2.1 ∧ r.2.1 ≤ 3 ∧ 0 ≤ r.2.2 ∧ r.2.2 ≤ 99 := by
  have := ((okAll_iff ltR_trans l).1 (guardsB_iff.1 h).1).1 r hr
  simp [okG] at this
  omega

end Go.Proofs.Ytkfpplnadnkbgaa
