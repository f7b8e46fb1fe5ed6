/- What stays and what is undone: plain laws; two lists of texts compared. -/
import Derived.Test.YtdchfiiaollheaaUndo2
import Derived.Test.YtdchfiiaollheaaFlowFind
namespace Go.Proofs.Ytdchfiiaollheaa
open Go.RowKit

section
variable {v : Int} {l : List Stp} {done : List ByteArray}
theorem firm_low : ∀ (n j : Nat) (s : ByteArray), firmN l done n ≤ j → j < n → done[j]? = some s → undoB l s = true
  | 0, j, s, _, h, _ => by omega
  | n + 1, j, s, h1, h2, h3 => by
    unfold firmN at h1
    cases hd : done[n]? with
    | none => rw [hd] at h1; simp at h1; omega
    | some t =>
      rw [hd] at h1
      simp only at h1
      split at h1
      next hu =>
        rcases Nat.lt_or_ge j n with q | q
        · exact firm_low n j s h1 q h3
        · have e : j = n := by omega
          subst e
          rw [hd] at h3
          cases h3
          exact hu
      next => omega
theorem firm_top : ∀ (n k : Nat) (s : ByteArray), n ≤ done.length → firmN l done n = k + 1 → done[k]? = some s → undoB l s = false
  | 0, k, s, _, h, _ => by simp [firmN] at h
  | n + 1, k, s, hn, h1, h3 => by
    unfold firmN at h1
    rw [List.getElem?_eq_getElem (by omega)] at h1
    simp only at h1
    split at h1
    next hu => exact firm_top n k s (by omega) h1 h3
    next hu =>
      have e : n = k := by omega
      subst e
      rw [List.getElem?_eq_getElem (by omega)] at h3
      cases h3
      simpa using hu
theorem firmP_le : firmP l done ≤ done.length := firmN_le _ _ _
theorem firm_at {k : Nat} {s : ByteArray} (h : done[k]? = some s) (hu : undoB l s = false) : k < firmP l done := by
  have hk := (List.getElem?_eq_some_iff.1 h).1
  rcases Nat.lt_or_ge k (firmP l done) with q | q
  · exact q
  · have := firm_low done.length k s q hk h
    rw [hu] at this; cases this
/-- The first step that can not be undone, or none. -/
theorem point_cases : ∀ (done : List ByteArray), ((∀ s ∈ done, undoB l s = true) ∧ pointL l done = ⟨#[]⟩) ∨ ∃ (k : Nat) (s : ByteArray), done[k]? = some s ∧ undoB l s = false ∧ (∀ (j : Nat) (t : ByteArray), j < k → done[j]? = some t → undoB l t = true) ∧ pointL l done = s
  | [] => .inl ⟨fun s h => (by cases h), rfl⟩
  | s :: r => by
    cases hu : undoB l s
    · exact .inr ⟨0, s, rfl, hu, fun j t hj => by omega, by simp [pointL, hu]⟩
    · rcases point_cases r with ⟨h1, h2⟩ | ⟨k, t, h1, h2, h3, h4⟩
      · refine .inl ⟨fun x hx => ?_, by simp [pointL, hu, h2]⟩
        rcases List.mem_cons.1 hx with rfl | hx
        · exact hu
        · exact h1 x hx
      · refine .inr ⟨k + 1, t, h1, h2, fun j x hj hx => ?_, by simp [pointL, hu, h4]⟩
        rcases j with _ | j
        · simp at hx; subst hx; exact hu
        · exact h3 j x (by omega) (by simpa using hx)
theorem name_ne (hf : flowB v l = true) {s : ByteArray} (hs : s ∈ namesP l) : s ≠ ⟨#[]⟩ := by
  have h := ((okAll_iff (ok := nameB) (lt := ltS) (fun _ _ _ h1 h2 => ltS_trans h1 h2) (namesP l)).1 (flowB_iff.1 hf).2.2.1).1 s hs
  intro e
  subst e
  have := (nameB_iff.1 h).1
  exact absurd this (by decide)
theorem firm_all (h : ∀ s ∈ done, undoB l s = true) : firmP l done = 0 := by
  cases hf : firmP l done with
  | zero => rfl
  | succ k =>
    have hk : k < done.length := by have := firmP_le (l := l) (done := done); omega
    have := firm_top done.length k done[k] (Nat.le_refl _) hf (List.getElem?_eq_getElem hk)
    rw [h _ (List.getElem_mem _)] at this
    cases this
theorem find_yes (hf : flowB v l = true) {s : ByteArray} (hs : s ∈ namesP l) : findB v l s = true := by simp [findB, hf, inB_iff.2 hs]
end

theorem flowFind_z (v : Int) (A : Option Addr) (n c : Nat) (l : List Stp) (s : ByteArray) (b u : Bool) (w : World) (h : SlP w A n c l) (hz : SzP l) (hb : findB v l s = b) (hu : (findB v l s && undoB l s) = u) : Calls Try.prog 33 #[.agg #[.int .i64 v, .slice A n c], .string s] w fun e w' =>
    ∃ nm D m dc, e = .returned (.tuple #[.agg #[.string nm, .slice D m dc, .bool u], .bool b]) ∧ Below w.heap.size w w' := by
  rw [← hb, ← hu]
  exact (flowFind_c v A n c l s w h hz).mono fun e w' ⟨nm, D, m, dc, u', h1, h2, h3⟩ => ⟨nm, D, m, dc, by rw [h1, h2], h3⟩
theorem plan_good {v : Int} {l : List Stp} {st : Int} {done : List ByteArray} : ∀ t ∈ planP v l st done, findB v l t = true ∧ undoB l t = true := by
  intro t ht
  cases hr : runB v l st done
  · rw [planP_no1 hr] at ht; cases ht
  by_cases h2 : st = 2
  · subst h2; rw [planP_no2] at ht; cases ht
  rw [planP_yes hr h2] at ht
  obtain ⟨hf, hd, _⟩ := runB_iff.1 hr
  rw [List.mem_reverse] at ht
  obtain ⟨j, hj, rfl⟩ := List.mem_iff_getElem.1 ht
  rw [List.getElem_drop]
  simp at hj
  have hm : done[firmP l done + j] ∈ done := List.getElem_mem _
  exact ⟨find_yes hf (done_names hd _ hm), firm_low done.length _ _ (by unfold firmP; omega) (by omega) (List.getElem?_eq_getElem (by omega))⟩
theorem left_good {v : Int} {l : List Stp} {st : Int} {done : List ByteArray} (h2 : st ≠ 2) (h0 : 0 < (leftP v l st done).length) : (leftP v l st done).length ≤ done.length ∧ ∀ t, (leftP v l st done)[(leftP v l st done).length - 1]? = some t → findB v l t = true ∧ undoB l t = false := by
  cases hr : runB v l st done
  · rw [leftP_no hr] at h0; simp at h0
  rw [leftP_some hr h2] at h0 ⊢
  obtain ⟨hf, hd, _⟩ := runB_iff.1 hr
  have hle := firmP_le (l := l) (done := done)
  rw [List.length_take] at h0 ⊢
  refine ⟨by omega, fun t ht => ?_⟩
  rw [show min (firmP l done) done.length = firmP l done by omega] at ht h0
  rw [List.getElem?_take, if_pos (by omega)] at ht
  exact ⟨find_yes hf (done_names hd _ (List.mem_of_getElem? ht)), firm_top done.length (firmP l done - 1) t (Nat.le_refl _) (show firmP l done = _ by omega) ht⟩

theorem sameTexts_b (A B : Option Addr) (n c n' c' : Nat) (l : List ByteArray) (w : World) (h : SlS w A n c l) (h' : SlS w B n' c' l) : Calls Try.prog 32 #[.slice A n c, .slice B n' c'] w fun e w' => e = .returned (.bool true) ∧ Below w.heap.size w w' :=
  (sameTexts_c A B n c n' c' l l w h h').mono fun e w' ⟨h1, q, h2⟩ => ⟨by rw [h1]; exact ret_bool (decide_eq_true rfl), by rw [h2]; exact bel_drN (bel_refl _) q⟩
theorem sameTexts_x (A B : Option Addr) (n c n' c' : Nat) (l m : List ByteArray) (w : World) (h : SlS w A n c l) (h' : SlS w B n' c' m) (he : l = m) : Calls Try.prog 32 #[.slice A n c, .slice B n' c'] w fun e w' => e = .returned (.bool true) ∧ Below w.heap.size w w' := by
  subst he; exact sameTexts_b A B n c n' c' l w h h'

end Go.Proofs.Ytdchfiiaollheaa
