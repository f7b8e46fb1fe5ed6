/- When timers are valid, in plain lists. No program is in sight here. -/
import Derived.Test.YtpkakpldhlldeaaTims
import Derived.Test.YtpkakpldhlldeaaNames
namespace Go.Proofs.Ytpkakpldhlldeaa

def okT (r : R2) : Bool := decide (0 ≤ r.1 ∧ r.1 ≤ 9999) && nameB r.2
def ltT (a b : R2) : Bool := decide (a.1 < b.1) || (decide (a.1 = b.1) && ltS a.2 b.2)
def namesT (l : List R2) : List ByteArray := l.map Prod.snd
/-- Timers are valid. -/
def timB (l : List R2) : Bool := decide (l.length ≤ 8) && okAll okT ltT l && decide ((namesT l).Nodup)

theorem ltT_iff {a b : R2} : ltT a b = true ↔ a.1 < b.1 ∨ (a.1 = b.1 ∧ ltS a.2 b.2 = true) := by simp [ltT]
theorem ltT_trans (a b c : R2) (h1 : ltT a b = true) (h2 : ltT b c = true) : ltT a c = true := by
  rw [ltT_iff] at *
  rcases h1 with h1 | ⟨h1, h1'⟩ <;> rcases h2 with h2 | ⟨h2, h2'⟩
  · exact .inl (by omega)
  · exact .inl (by omega)
  · exact .inl (by omega)
  · exact .inr ⟨by omega, ltS_trans h1' h2'⟩
theorem ltT_irrefl (a : R2) : ltT a a = false := by
  cases h : ltT a a
  · rfl
  · rcases ltT_iff.1 h with h | ⟨_, h⟩
    · omega
    · rw [ltS_irrefl] at h; cases h

theorem tim_no1 {l : List R2} (h : 8 < l.length) : timB l = false := by
  have : decide (l.length ≤ 8) = false := decide_eq_false (by omega)
  simp [timB, this]
theorem tim_no2 {l : List R2} {k : Nat} (hk : k < l.length) (h : okAt okT ltT l k = false) : timB l = false := by simp [timB, okAll_no hk h]
theorem names_take {l : List R2} {k : Nat} {x : Int} {s : ByteArray} (hz : l[k]? = some (x, s)) : namesT (l.take (k + 1)) = namesT (l.take k) ++ [s] := by
  unfold namesT
  rw [List.take_add_one, hz]
  simp
theorem tim_no3 {l : List R2} {k : Nat} {x : Int} {s : ByteArray} (hz : l[k]? = some (x, s)) (h : s ∈ namesT (l.take k)) : timB l = false := by
  have : ¬ (namesT l).Nodup := by
    intro hn
    have h1 : (namesT (l.take (k + 1))).Nodup := by
      unfold namesT at hn ⊢
      rw [List.map_take]
      exact hn.sublist (List.take_sublist _ _)
    rw [names_take hz, List.nodup_append] at h1
    exact h1.2.2 s h s (by simp) rfl
  simp [timB, this]
theorem tim_yes {l : List R2} {n : Nat} (hn : l.length = n) (h2 : n ≤ 8) (H : ∀ j, j < n → okAt okT ltT l j = true) (hd : (namesT (l.take n)).Nodup) : timB l = true := by
  have e2 : decide (l.length ≤ 8) = true := decide_eq_true (by omega)
  rw [List.take_of_length_le (by omega)] at hd
  simp [timB, e2, okAll_yes hn H, hd]
theorem nodup_next {l : List R2} {k : Nat} {x : Int} {s : ByteArray} (h : (namesT (l.take k)).Nodup) (hz : l[k]? = some (x, s)) (hs : s ∉ namesT (l.take k)) : (namesT (l.take (k + 1))).Nodup := by
  rw [names_take hz, List.nodup_append]
  refine ⟨h, by simp, fun a ha b hb => ?_⟩
  obtain rfl : b = s := by simpa using hb
  exact fun e => hs (e ▸ ha)
theorem okT_no {x : Int} {s : ByteArray} (h : ¬ (0 ≤ x ∧ x ≤ 9999) ∨ nameB s = false) : okT (x, s) = false := by
  rcases h with h | h
  · simp only [okT, decide_eq_false h]; simp
  · simp [okT, h]
theorem okT_yes {x : Int} {s : ByteArray} (h : 0 ≤ x ∧ x ≤ 9999) (hs : nameB s = true) : okT (x, s) = true := by simp [okT, h, hs]

end Go.Proofs.Ytpkakpldhlldeaa
