/- A plan is what is undone: plain laws. -/
import Derived.Test.YtdchfiiaollheaaUndoPlain
import Derived.Test.YtdchfiiaollheaaBehPlain
namespace Go.Proofs.Ytdchfiiaollheaa

theorem first_such {P : Nat → Prop} : ∀ n, P n → ∃ i, i ≤ n ∧ P i ∧ ∀ j, j < i → ¬ P j
  | 0, h => ⟨0, Nat.le_refl _, h, fun j hj => by omega⟩
  | n + 1, h => by
    by_cases hq : ∃ i, i ≤ n ∧ P i
    · obtain ⟨m, hm, hP⟩ := hq
      obtain ⟨i, hi, h1, h2⟩ := first_such m hP
      exact ⟨i, by omega, h1, h2⟩
    · exact ⟨n + 1, Nat.le_refl _, h, fun j hj hP => hq ⟨j, by omega, hP⟩⟩
section
variable {v : Int} {l : List Stp} {done : List ByteArray}
theorem ready_ne (h : runB v l 0 done = true) : ∃ x r, readyP l done = x :: r := by
  obtain ⟨hf, hd, hst⟩ := runB_iff.1 h
  have hlt : done.length < l.length := by simpa [stateB] using hst
  have ho := ord_of hf
  have hex : ∃ i : Nat, ∃ x, (orderP l)[i]? = some x ∧ x ∉ done := by
    refine Classical.byContradiction fun hn => ?_
    have hall : ∀ x ∈ orderP l, x ∈ done := fun x hx => by
      obtain ⟨i, hi, he⟩ := List.mem_iff_getElem.1 hx
      exact Classical.byContradiction fun hnx => hn ⟨i, x, by rw [List.getElem?_eq_getElem hi, he], hnx⟩
    have := nodup_le ho.nodup hall
    rw [ho.len] at this
    omega
  obtain ⟨n, hn⟩ := hex
  obtain ⟨i, _, ⟨x, hx, hnx⟩, hmin⟩ := first_such (P := fun i : Nat => ∃ x, (orderP l)[i]? = some x ∧ x ∉ done) n hn
  obtain ⟨p, hp, hpx, _, hh⟩ := ho.ready i x hx
  have hhd : haveB done p.after = true := by
    unfold haveB at hh ⊢
    rw [List.all_eq_true] at hh ⊢
    intro a ha
    obtain ⟨j, hj, hjo⟩ := mem_take_at (inB_iff.1 (hh a ha))
    exact inB_iff.2 (Classical.byContradiction fun hna => hmin j hj ⟨a, hjo, hna⟩)
  have hmem : x ∈ readyP l done := by
    unfold readyP
    refine List.mem_map.2 ⟨p, List.mem_filter.2 ⟨hp, ?_⟩, hpx⟩
    have : inB done p.name = false := by
      cases hi : inB done p.name
      · rfl
      · rw [hpx] at hi; exact absurd (inB_iff.1 hi) hnx
    simp [this, hhd]
  cases hr : readyP l done with
  | nil => rw [hr] at hmem; cases hmem
  | cons y r => exact ⟨y, r, rfl⟩
theorem done_take (h : doneB l done = true) (k : Nat) : doneB l (done.take k) = true := by
  refine doneB_iff.2 fun j hj => ?_
  simp at hj
  have := doneB_iff.1 h j (by omega)
  unfold doneAt at this ⊢
  rw [List.getElem?_take, if_pos (by omega), List.take_take, show min j k = j by omega]
  exact this
theorem last_take {k : Nat} (hk : k + 1 ≤ done.length) (hf : firmP l done ≤ k) : lastU l (done.take (k + 1)) = true := by
  unfold lastU
  rw [List.length_take, show min (k + 1) done.length - 1 = k by omega, List.getElem?_take, if_pos (by omega), List.getElem?_eq_getElem (by omega)]
  exact firm_low done.length k _ (by unfold firmP at hf; exact hf) (by omega) (List.getElem?_eq_getElem (by omega))
theorem last_firm : lastU l (done.take (firmP l done)) = false := by
  cases hf : firmP l done with
  | zero => simp [lastU]
  | succ f =>
    have hle := firmP_le (l := l) (done := done)
    unfold lastU
    rw [List.length_take, show min (f + 1) done.length - 1 = f by omega, List.getElem?_take, if_pos (by omega), List.getElem?_eq_getElem (by omega)]
    exact firm_top done.length f _ (Nat.le_refl _) hf (List.getElem?_eq_getElem (by omega))
theorem back_one {k : Nat} (hk : k + 1 ≤ done.length) (hf : firmP l done ≤ k) : backI l (done.take (k + 1)) = 1 := by
  unfold backI; rw [last_take hk hf]; rfl
theorem back_three : backI l (done.take (firmP l done)) = 3 := by
  unfold backI; rw [last_firm]; rfl
theorem run_back (h : runB v l 0 done = true) {k : Nat} (hk : k + 1 ≤ done.length) (hf : firmP l done ≤ k) : runB v l 1 (done.take (k + 1)) = true := by
  obtain ⟨h1, h2, h3⟩ := runB_iff.1 h
  have hlt : done.length < l.length := by simpa [stateB] using h3
  refine runB_iff.2 ⟨h1, done_take h2 _, ?_⟩
  unfold stateB
  rw [last_take hk hf]
  simp
  omega
theorem plan_at {f i j : Nat} {t : ByteArray} (hij : i + (j + 1) = done.length) (hfj : f ≤ j) (h : (done.drop f).reverse[i]? = some t) : (done.take (j + 1))[j]? = some t := by
  rw [List.getElem?_reverse (by simp; omega), List.getElem?_drop] at h
  simp only [List.length_drop] at h
  rw [List.getElem?_take, if_pos (by omega), ← h]
  congr 1
  omega
end

end Go.Proofs.Ytdchfiiaollheaa
