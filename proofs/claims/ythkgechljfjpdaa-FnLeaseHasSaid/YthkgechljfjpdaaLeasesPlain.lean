/- Plain laws of valid leases. No program is in sight here. -/
import Derived.Test.YthkgechljfjpdaaLeases
namespace Go.Proofs.Ythkgechljfjpdaa

theorem leasesB_iff {l : List R3} : leasesB l = true ↔ okAll okL ltR l = true ∧ l.length ≤ 8 := by
  unfold leasesB; rw [Bool.and_eq_true, decide_eq_true_iff]

theorem leases_less {l : List R3} (h : leasesB l = true) (k : Nat) : leasesB (l.take k ++ l.drop (k + 1)) = true := by
  rw [leasesB_iff] at h ⊢
  have hs : (l.take k ++ l.drop (k + 1)).Sublist l := by
    have h1 : (l.take k ++ l.drop (k + 1)).Sublist (l.take k ++ l.drop k) := List.Sublist.append (List.Sublist.refl _) (by rw [← List.drop_drop]; exact List.drop_sublist _ _)
    rwa [List.take_append_drop] at h1
  exact ⟨okAll_sub ltR_trans hs h.1, Nat.le_trans hs.length_le h.2⟩

theorem leases_twice (l : List R3) (k : Nat) (hk : k < l.length) : leasesB (l.take (k + 1) ++ l.drop k) = false := by
  unfold leasesB
  rw [List.take_succ_eq_append_getElem hk, List.drop_eq_getElem_cons hk, List.append_assoc, List.singleton_append, okAll_twice ltR_trans ltR_irrefl]
  rfl

theorem leases_mem {l : List R3} (h : leasesB l = true) {r : R3} (hr : r ∈ l) : nameB r.1 = true ∧ 1 ≤ r.2.1 ∧ r.2.1 ≤ 99 ∧ 0 ≤ r.2.2 ∧ r.2.2 ≤ 19999 := by
  have := ((okAll_iff ltR_trans l).1 (leasesB_iff.1 h).1).1 r hr
  simp [okL] at this
  exact ⟨this.1.1, this.1.2.1, this.1.2.2, this.2.1, this.2.2⟩

end Go.Proofs.Ythkgechljfjpdaa
