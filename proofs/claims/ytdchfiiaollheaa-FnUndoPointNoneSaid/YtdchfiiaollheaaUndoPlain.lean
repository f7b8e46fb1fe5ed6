/- What stays and what is undone: plain laws; two lists of texts compared. -/
import Derived.Test.YtdchfiiaollheaaUndo2
import Derived.Test.YtdchfiiaollheaaFlowFind
namespace Go.Proofs.Ytdchfiiaollheaa
open Go.RowKit

section
variable {v : Int} {l : List Stp} {done : List ByteArray}
theorem firm_low : ∀ (n j : Nat) (s : ByteArray), firmN l done n ≤ j → j < n → done[j]? = some s → undoB l s = true
  | 0, j, s, _, h, _ => by omega
  | n + 1, j, s, h1, h2, h3 => by
    unfold firmN at h1
    cases hd : done[n]? with
    | none => rw [hd] at h1; simp at h1; omega
    | some t =>
      rw [hd] at h1
      simp only at h1
      split at h1
      next hu =>
        rcases Nat.lt_or_ge j n with q | q
        · exact firm_low n j s h1 q h3
        · have e : j = n := by omega
          subst e
          rw [hd] at h3
          cases h3
          exact hu
      next => omega
theorem firm_top : ∀ (n k : Nat) (s : ByteArray), n ≤ done.length → firmN l done n = k + 1 → done[k]? = some s → undoB l s = false
  | 0, k, s, _, h, _ => by simp [firmN] at h
  | n + 1, k, s, hn, h1, h3 => by
    unfold firmN at h1
    rw [List.getElem?_eq_getElem (by omega)] at h1
    simp only at h1
    split at h1
    next hu => exact firm_top n k s (by omega) h1 h3
    next hu =>
      have e : n = k := by omega
      subst e
      rw [List.getElem?_eq_getElem (by omega)] at h3
      cases h3
      simpa using hu
theorem firmP_le : firmP l done ≤ done.length := firmN_le _ _ _
theorem firm_at {k : Nat} {s : ByteArray} (h : done[k]? = some s) (hu : undoB l s = false) : k < firmP l done := by
  have hk := (List.getElem?_eq_some_iff.1 h).1
  rcases Nat.lt_or_ge k (firmP l done) with q | q
  · exact q
  · have := firm_low done.length k s q hk h
    rw [hu] at this; cases this
/-- The first step that can not be undone, or none. -/
theorem point_cases : ∀ (done : List ByteArray), ((∀ s ∈ done, undoB l s = true) ∧ pointL l done = ⟨#[]⟩) ∨ ∃ (k : Nat) (s : ByteArray), done[k]? = some s ∧ undoB l s = false ∧ (∀ (j : Nat) (t : ByteArray), j < k → done[j]? = some t → undoB l t = true) ∧ pointL l done = s
  | [] => .inl ⟨fun s h => (by cases h), rfl⟩
  | s :: r => by
    cases hu : undoB l s
    · exact .inr ⟨0, s, rfl, hu, fun j t hj => by omega, by simp [pointL, hu]⟩
    · rcases point_cases r with ⟨h1, h2⟩ | ⟨k, t, h1, h2, h3, h4⟩
      · refine .inl ⟨fun x hx => ?_, by simp [pointL, hu, h2]⟩
        rcases List.mem_cons.1 hx with rfl | hx
        · exact hu
        · exact h1 x hx
      · refine .inr ⟨k + 1, t, h1, h2, fun j x hj hx => ?_, by simp [pointL, hu, h4]⟩
        rcases j with _ | j
        · simp at hx; subst hx; exact hu
        · exact h3 j x (by omega) (by simpa using hx)
theorem name_ne (hf : flowB v l = true) {s : ByteArray} (hs : s ∈ namesP l) : s ≠ ⟨#[]⟩ := by
  have h := ((okAll_iff (ok := nameB) (lt := ltS) (fun _ _ _ h1 h2 => ltS_trans h1 h2) (namesP l)).1 (flowB_iff.1 hf).2.2.1).1 s hs
  intro e
  subst e
  have := (nameB_iff.1 h).1
  exact absurd this (by decide)
theorem firm_all (h : ∀ s ∈ done, undoB l s = true) : firmP l done = 0 := by
  cases hf : firmP l done with
  | zero => rfl
  | succ k =>
    have hk : k < done.length := by have := firmP_le (l := l) (done := done); omega
    have := firm_top done.length k done[k] (Nat.le_refl _) hf (List.getElem?_eq_getElem hk)
    rw [h _ (List.getElem_mem _)] at this
    cases this
theorem find_yes (hf : flowB v l = true) {s : ByteArray} (hs : s ∈ namesP l) : findB v l s = true := by simp [findB, hf, inB_iff.2 hs]
end

theorem sameTexts_b (A B : Option Addr) (n c n' c' : Nat) (l : List ByteArray) (w : World) (h : SlS w A n c l) (h' : SlS w B n' c' l) : Calls Try.prog 32 #[.slice A n c, .slice B n' c'] w fun e w' => e = .returned (.bool true) ∧ Below w.heap.size w w' :=
  (sameTexts_c A B n c n' c' l l w h h').mono fun e w' ⟨h1, q, h2⟩ => ⟨by rw [h1]; exact ret_bool (decide_eq_true rfl), by rw [h2]; exact bel_drN (bel_refl _) q⟩
theorem sameTexts_x (A B : Option Addr) (n c n' c' : Nat) (l m : List ByteArray) (w : World) (h : SlS w A n c l) (h' : SlS w B n' c' m) (he : l = m) : Calls Try.prog 32 #[.slice A n c, .slice B n' c'] w fun e w' => e = .returned (.bool true) ∧ Below w.heap.size w w' := by
  subst he; exact sameTexts_b A B n c n' c' l w h h'

end Go.Proofs.Ytdchfiiaollheaa
