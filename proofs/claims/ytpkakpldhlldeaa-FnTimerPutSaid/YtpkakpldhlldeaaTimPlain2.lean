/- What the laws ask of timers that are due, and of one that was taken away, in plain lists. -/
import Derived.Test.YtpkakpldhlldeaaTimDrop
import Derived.Test.YtpkakpldhlldeaaTimDueS
import Derived.Test.YtpkakpldhlldeaaTimDraw
namespace Go.Proofs.Ytpkakpldhlldeaa

theorem timB_iff {l : List R2} : timB l = true ↔ l.length ≤ 8 ∧ okAll okT ltT l = true ∧ (namesT l).Nodup := by
  simp [timB, and_assoc]
theorem timB_sub {l m : List R2} (hs : m.Sublist l) (h : timB l = true) : timB m = true := by
  rw [timB_iff] at *
  exact ⟨Nat.le_trans hs.length_le h.1, okAll_sub ltT_trans hs h.2.1, h.2.2.sublist (hs.map _)⟩
theorem timB_ok {l : List R2} (h : timB l = true) : (∀ r ∈ l, okT r = true) ∧ l.Pairwise (fun a b => ltT a b = true) := (okAll_iff ltT_trans l).1 (timB_iff.1 h).2.1
theorem okT_at {r : R2} (h : okT r = true) : 0 ≤ r.1 ∧ r.1 ≤ 9999 ∧ nameB r.2 = true := by
  simp [okT] at h; exact ⟨h.1.1, h.1.2, h.2⟩
theorem timB_at {l : List R2} (h : timB l = true) {r : R2} (hr : r ∈ l) : 0 ≤ r.1 ∧ r.1 ≤ 9999 ∧ nameB r.2 = true := okT_at ((timB_ok h).1 r hr)
theorem timB_sz {l : List R2} (h : timB l = true) : SzT l := fun r hr => by
  have := (nameB_iff.1 (timB_at h hr).2.2).2.1
  omega
theorem sz5T_szT {l : List R2} (h : Sz5T l) : SzT l := fun r hr => by have := (h r hr).1; omega

theorem due_ok {l f : List R2} {t : Int} {d : List ByteArray} (h : dueR l t = (d, f, true)) : timB l = true ∧ (0 ≤ t ∧ t ≤ 9999) ∧ d = dueF l t ∧ f = leftF l t := by
  cases hv : timB l
  · rw [dueR_no1 hv] at h; cases h
  · cases ht : decide (0 ≤ t ∧ t ≤ 9999)
    · rw [dueR_no2 ht] at h; cases h
    · rw [dueR_yes hv ht] at h
      cases h
      exact ⟨rfl, of_decide_eq_true ht, rfl, rfl⟩
theorem due_all {l : List R2} (h : timB l = true) : dueR l 9999 = (namesT l, [], true) := by
  rw [dueR_yes h rfl]
  have h1 : l.filter (fun r => decide (r.1 ≤ 9999)) = l := List.filter_eq_self.2 fun r hr => decide_eq_true (timB_at h hr).2.1
  have h2 : l.filter (fun r => ! decide (r.1 ≤ 9999)) = [] := List.filter_eq_nil_iff.2 fun r hr => by simp [(timB_at h hr).2.1]
  simp only [dueF, leftF, h1, h2, namesT]
theorem due_twice {l f : List R2} {t : Int} {d : List ByteArray} (h : dueR l t = (d, f, true)) : dueR f t = ([], f, true) := by
  obtain ⟨hv, ht, _, rfl⟩ := due_ok h
  have hv2 : timB (leftF l t) = true := timB_sub (List.filter_sublist (p := fun r : R2 => ! decide (r.1 ≤ t)) (l := l)) hv
  rw [dueR_yes hv2 (decide_eq_true ht)]
  have h1 : (leftF l t).filter (fun r => decide (r.1 ≤ t)) = [] := by
    unfold leftF
    rw [List.filter_filter]
    exact List.filter_eq_nil_iff.2 fun r _ => by simp
  have h2 : (leftF l t).filter (fun r => ! decide (r.1 ≤ t)) = leftF l t := by
    unfold leftF
    rw [List.filter_filter]
    congr 1
    funext r
    simp
  rw [show dueF (leftF l t) t = [] by unfold dueF; rw [h1]; rfl, show leftF (leftF l t) t = leftF l t from h2]
theorem due_more {l : List R2} (t : Int) : l.Pairwise (fun a b => ltT a b = true) → ∃ m, dueF l (t + 1) = dueF l t ++ m := by
  induction l with
  | nil => exact fun _ => ⟨[], rfl⟩
  | cons r l ih =>
    intro h
    rw [List.pairwise_cons] at h
    by_cases hr : r.1 ≤ t
    · obtain ⟨m, hm⟩ := ih h.2
      refine ⟨m, ?_⟩
      have e1 : dueF (r :: l) t = r.2 :: dueF l t := by simp [dueF, hr]
      have e2 : dueF (r :: l) (t + 1) = r.2 :: dueF l (t + 1) := by simp [dueF, show r.1 ≤ t + 1 by omega]
      rw [e1, e2, hm, List.cons_append]
    · refine ⟨dueF (r :: l) (t + 1), ?_⟩
      have e1 : dueF (r :: l) t = [] := by
        unfold dueF
        rw [List.map_eq_nil_iff, List.filter_eq_nil_iff]
        intro x hx
        rcases List.mem_cons.1 hx with rfl | hx
        · simpa using hr
        · have := ltT_iff.1 (h.1 x hx)
          simp
          omega
      rw [e1, List.nil_append]
theorem due_later {l f : List R2} {t : Int} {d : List ByteArray} (h : dueR l t = (d, f, true)) (ht : t ≠ 9999) : ∃ m f', dueR l (t + 1) = (d ++ m, f', true) := by
  obtain ⟨hv, h1, rfl, _⟩ := due_ok h
  obtain ⟨m, hm⟩ := due_more t (timB_ok hv).2
  exact ⟨m, leftF l (t + 1), by rw [dueR_yes hv (decide_eq_true (by omega)), hm]⟩

theorem drop_ok {l f : List R2} {s : ByteArray} (h : dropR l s = (f, true)) : timB l = true ∧ withF l s ≠ l ∧ f = withF l s := by
  cases hv : timB l
  · rw [dropR_no1 hv] at h; cases h
  · by_cases hw : withF l s = l
    · rw [dropR_no2 hw] at h; cases h
    · rw [dropR_yes hv hw] at h
      cases h
      exact ⟨rfl, hw, rfl⟩
theorem withF_twice (l : List R2) (s : ByteArray) : withF (withF l s) s = withF l s := by
  unfold withF
  rw [List.filter_filter]
  congr 1
  funext r
  simp
theorem drop_law {l f : List R2} {s : ByteArray} (h : dropR l s = (f, true)) : timB f = true ∧ f.length + 1 = l.length ∧ dropR f s = ([], false) := by
  obtain ⟨hv, hw, rfl⟩ := drop_ok h
  refine ⟨timB_sub (List.filter_sublist (p := fun r : R2 => ! decide (r.2 = s)) (l := l)) hv, ?_, dropR_no2 (withF_twice l s)⟩
  rcases atF_cases l s with ⟨_, hall⟩ | ⟨k, x, _, hk, _⟩
  · exact absurd (withF_none (fun j r _ hr => hall r (List.mem_of_getElem? hr))) hw
  · rw [withF_cut hv hk]
    have := (List.getElem?_eq_some_iff.1 hk).1
    simp
    omega

end Go.Proofs.Ytpkakpldhlldeaa
