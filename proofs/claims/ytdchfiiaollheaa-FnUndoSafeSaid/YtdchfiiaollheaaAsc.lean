/- The order of byte strings; ascending lists of valid things. No program is in sight here. -/
import Derived.Sort.Walk0
namespace Go.Proofs.Ytdchfiiaollheaa

/-- One text comes ahead of another one. -/
def ltS (a b : ByteArray) : Bool := Op.bytesLess a.toList b.toList

theorem ltS_eq (a b : ByteArray) : ltS a b = decide (a.toList < b.toList) := bytesLess_eq _ _
theorem ltS_iff {a b : ByteArray} : ltS a b = true ↔ a.toList < b.toList := by rw [ltS_eq]; exact decide_eq_true_iff
theorem ltS_irrefl (a : ByteArray) : ltS a a = false := by
  cases h : ltS a a
  · rfl
  · exact absurd (ltS_iff.1 h) (List.lt_irrefl _)
theorem ltS_trans {a b c : ByteArray} (h1 : ltS a b = true) (h2 : ltS b c = true) : ltS a c = true :=
  ltS_iff.2 (List.lt_trans (ltS_iff.1 h1) (ltS_iff.1 h2))
theorem toList_inj {a b : ByteArray} (h : a.toList = b.toList) : a = b := by
  rw [Lib.toList_data, Lib.toList_data] at h
  cases a with | mk x => cases b with | mk y => exact congrArg _ (Array.toList_inj.1 h)
theorem ltS_total {a b : ByteArray} (h1 : ltS a b = false) (h2 : ltS b a = false) : a = b := by
  refine toList_inj (List.le_antisymm ?_ ?_)
  · intro h; rw [ltS_iff.2 h] at h2; cases h2
  · intro h; rw [ltS_iff.2 h] at h1; cases h1
theorem ltS_asymm {a b : ByteArray} (h1 : ltS a b = true) : ltS b a = false := by
  cases h : ltS b a
  · rfl
  · have := ltS_trans h1 h; rw [ltS_irrefl] at this; cases this
theorem ltS_ne {a b : ByteArray} (h1 : ltS a b = true) : a ≠ b := by rintro rfl; rw [ltS_irrefl] at h1; cases h1
theorem beqS {a b : ByteArray} : (a.toList == b.toList) = decide (a = b) := by
  rw [Bool.eq_iff_iff, beq_iff_eq, decide_eq_true_iff]
  exact ⟨toList_inj, fun h => by rw [h]⟩
theorem beqS_yes {a b : ByteArray} (h : a = b) : (a.toList == b.toList) = true := by rw [beqS]; exact decide_eq_true h
theorem beqS_no {a b : ByteArray} (h : a ≠ b) : (a.toList == b.toList) = false := by rw [beqS]; exact decide_eq_false h

theorem leqS_of {a b : ByteArray} (h : ltS a b = false) : (Op.bytesLess b.toList a.toList || b.toList == a.toList) = true := by
  cases hb : ltS b a
  · obtain rfl := ltS_total h hb; simp
  · rw [show Op.bytesLess b.toList a.toList = true from hb]; rfl

section
variable {α : Type} (ok : α → Bool) (lt : α → α → Bool)

/-- The element at place k is valid, and not ahead of the one before it. -/
def okAt (l : List α) (k : Nat) : Bool := match l[k]? with
  | none => true
  | some a => ok a && (k == 0 || match l[k - 1]? with | none => true | some p => lt p a)

/-- All are valid, and they ascend. -/
def okAll (l : List α) : Bool := (List.range l.length).all (okAt ok lt l)

variable {ok lt} {l : List α} {k : Nat} {a p : α}

theorem okAt_bad (h : l[k]? = some a) (ho : ok a = false) : okAt ok lt l k = false := by simp [okAt, h, ho]
theorem okAt_zero (h : l[0]? = some a) (ho : ok a = true) : okAt ok lt l 0 = true := by simp [okAt, h, ho]
theorem okAt_prev (h : l[k]? = some a) (ho : ok a = true) (hk : 0 < k) (hp : l[k - 1]? = some p) : okAt ok lt l k = lt p a := by
  have : (k == 0) = false := by simp; omega
  simp [okAt, h, ho, hp, this]
theorem okAll_no (hk : k < l.length) (h : okAt ok lt l k = false) : okAll ok lt l = false := by
  unfold okAll
  rw [List.all_eq_false]
  exact ⟨k, by simpa using hk, by simp [h]⟩
theorem okAll_yes {n : Nat} (hn : l.length = n) (h : ∀ j, j < n → okAt ok lt l j = true) : okAll ok lt l = true := by
  unfold okAll
  rw [List.all_eq_true]
  intro j hj
  exact h j (by simp at hj; omega)
theorem upto_ok (H : ∀ j, j < k → okAt ok lt l j = true) (h : okAt ok lt l k = true) : ∀ j, j < k + 1 → okAt ok lt l j = true := by
  intro j hj
  rcases Nat.lt_or_ge j k with q | q
  · exact H j q
  · obtain rfl : j = k := by omega
    exact h

theorem okAll_iff (tr : ∀ a b c, lt a b = true → lt b c = true → lt a c = true) (l : List α) : okAll ok lt l = true ↔ (∀ a ∈ l, ok a = true) ∧ l.Pairwise (fun a b => lt a b = true) := by
  unfold okAll
  rw [List.all_eq_true]
  constructor
  · intro h
    constructor
    · intro a ha
      obtain ⟨j, hj, rfl⟩ := List.getElem_of_mem ha
      have := h j (by simpa using hj)
      simp [okAt, hj] at this
      exact this.1
    · rw [List.pairwise_iff_getElem]
      have step : ∀ i (hi : i + 1 < l.length), lt l[i] l[i + 1] = true := by
        intro i hi
        have := h (i + 1) (by simpa using hi)
        simp [okAt, hi, show i < l.length by omega] at this
        exact this.2
      intro i j hi hj hij
      obtain ⟨d, rfl⟩ := Nat.exists_eq_add_of_le hij
      induction d with
      | zero => exact step i (by omega)
      | succ d ih => exact tr _ _ _ (ih (by omega) (by omega)) (by have := step (i.succ + d) (by omega); exact this)
  · rintro ⟨h1, h2⟩ j hj
    simp at hj
    rw [List.pairwise_iff_getElem] at h2
    simp only [okAt, List.getElem?_eq_getElem hj, h1 _ (List.getElem_mem hj), Bool.true_and, Bool.or_eq_true]
    rcases Nat.eq_zero_or_pos j with h0 | h0
    · left; simp [h0]
    · right
      rw [List.getElem?_eq_getElem (show j - 1 < l.length by omega)]
      exact h2 _ _ _ _ (by omega)

theorem okAll_sub (tr : ∀ a b c, lt a b = true → lt b c = true → lt a c = true) {l m : List α} (hs : m.Sublist l) (h : okAll ok lt l = true) : okAll ok lt m = true := by
  rw [okAll_iff tr] at h ⊢
  exact ⟨fun a ha => h.1 a (hs.subset ha), h.2.sublist hs⟩

theorem okAll_twice (tr : ∀ a b c, lt a b = true → lt b c = true → lt a c = true) (ir : ∀ a, lt a a = false) {l m : List α} {a : α} : okAll ok lt (l ++ a :: a :: m) = false := by
  cases h : okAll ok lt (l ++ a :: a :: m)
  · rfl
  · have h2 := ((okAll_iff tr _).1 h).2
    rw [List.pairwise_append] at h2
    have := (List.pairwise_cons.1 h2.2.1).1 a (by simp)
    rw [ir] at this
    cases this
end

end Go.Proofs.Ytdchfiiaollheaa
