/- What the laws of waits, times and tries need of the plain functions. -/
import Derived.Test.YtmobpfphehmleaaRetryPlain
namespace Go.Proofs.Ytmobpfphehmleaa

theorem waitF_neg (t f m x : Int) : waitF t f m x = -1 ∨ (polB t f m = true ∧ 1 ≤ x ∧ x < t ∧ waitF t f m x = wt f m (x.toNat - 1)) := by
  unfold waitF
  by_cases h : polB t f m = true ∧ 1 ≤ x ∧ x < t
  · rw [if_pos h]; exact .inr ⟨h.1, h.2.1, h.2.2, rfl⟩
  · rw [if_neg h]; exact .inl rfl

theorem wait_facts (t f m x : Int) (h : ¬ waitF t f m x < 0) :
    1 ≤ f ∧ f ≤ waitF t f m x ∧ waitF t f m x ≤ m ∧ m ≤ 500 ∧ 1 ≤ x ∧ x < t ∧ t ≤ 8 ∧ (waitF t f m (x + 1) = -1 ∨ (waitF t f m x ≤ waitF t f m (x + 1) ∧ waitF t f m (x + 1) ≤ 2 * waitF t f m x)) := by
  rcases waitF_neg t f m x with h0 | ⟨hv, h1, h2, h3⟩
  · omega
  · obtain ⟨p1, p2, p3, p4, p5, p6⟩ := polB_iff.1 hv
    have hb := wt_bd p3 p5 p6 (x.toNat - 1)
    have hs := wt_step p3 p5 p6 (x.toNat - 1)
    refine ⟨p3, by omega, by omega, p6, h1, h2, p2, ?_⟩
    rcases waitF_neg t f m (x + 1) with h0 | ⟨_, _, _, h4⟩
    · exact .inl h0
    · rw [show (x + 1).toNat - 1 = x.toNat - 1 + 1 by omega] at h4
      exact .inr (by omega)

theorem wait_first (t f m x : Int) (h : ¬ waitF t f m x < 0) : waitF t f m 1 = f ∧ waitF t f m t = -1 := by
  rcases waitF_neg t f m x with h0 | ⟨hv, h1, h2, h3⟩
  · omega
  · constructor
    · rw [waitF, if_pos ⟨hv, by omega, by omega⟩]; rfl
    · rw [waitF, if_neg (by omega)]

theorem atF_neg (t f m x : Int) : atF t f m x = -1 ∨ (polB t f m = true ∧ 1 ≤ x ∧ x ≤ t ∧ atF t f m x = ats f m (x.toNat - 1)) := by
  unfold atF
  by_cases h : polB t f m = true ∧ 1 ≤ x ∧ x ≤ t
  · rw [if_pos h]; exact .inr ⟨h.1, h.2.1, h.2.2, rfl⟩
  · rw [if_neg h]; exact .inl rfl

theorem at_facts (t f m x : Int) (h : ¬ atF t f m x < 0) :
    1 ≤ x ∧ x ≤ t ∧ t ≤ 8 ∧ atF t f m 1 = 0 ∧ (x = 1 → atF t f m x = 0) ∧ (x ≠ 1 → 1 ≤ atF t f m x) ∧
      atF t f m x ≤ 4000 ∧ (x ≠ 1 → 0 ≤ atF t f m (x - 1) ∧ atF t f m (x - 1) ≤ 4000 ∧ 0 ≤ waitF t f m (x - 1) ∧ waitF t f m (x - 1) ≤ 500 ∧ atF t f m (x - 1) + waitF t f m (x - 1) = atF t f m x) ∧ byF t f m (atF t f m x) = x := by
  rcases atF_neg t f m x with h0 | ⟨hv, h1, h2, h3⟩
  · omega
  · obtain ⟨p1, p2, p3, p4, p5, p6⟩ := polB_iff.1 hv
    have hb := ats_bd p3 p5 p6 (x.toNat - 1)
    have ha1 : atF t f m 1 = 0 := by rw [atF, if_pos ⟨hv, by omega, by omega⟩]; rfl
    refine ⟨h1, h2, p2, ha1, fun e => by rw [e]; exact ha1, fun e => by omega, by omega, fun e => ?_, ?_⟩
    · obtain ⟨k, hk⟩ : ∃ k, x.toNat - 1 = k + 1 := ⟨x.toNat - 2, by omega⟩
      have hb2 := ats_bd p3 p5 p6 k
      have hw := wt_bd p3 p5 p6 k
      have e1 : atF t f m (x - 1) = ats f m k := by rw [atF, if_pos ⟨hv, by omega, by omega⟩]; congr 1; omega
      have e2 : waitF t f m (x - 1) = wt f m k := by rw [waitF, if_pos ⟨hv, by omega, by omega⟩]; congr 1; omega
      have e3 : atF t f m x = ats f m k + wt f m k := by rw [h3, hk]; rfl
      omega
    · rw [byF, if_pos ⟨hv, by omega⟩]
      obtain ⟨j, hj, j1, j2, j3, j4⟩ := byGo_spec f m (atF t f m x) (t.toNat - 1) 1 (Nat.le_refl _) (by simp [ats]; omega)
      rw [hj]
      rw [h3] at j3 j4
      have hlo : j - 1 ≤ x.toNat - 1 := by
        by_cases hc : j - 1 ≤ x.toNat - 1
        · exact hc
        · have := ats_lt p3 p5 p6 (x.toNat - 1)
          have := ats_mono p3 p5 p6 (show x.toNat - 1 + 1 ≤ j - 1 by omega)
          omega
      have hhi : x.toNat - 1 < j := by
        rcases j4 with j4 | j4
        · omega
        · by_cases hc : x.toNat - 1 < j
          · exact hc
          · have := ats_mono p3 p5 p6 (show j ≤ x.toNat - 1 by omega)
            omega
      omega

theorem byF_neg (t f m x : Int) : byF t f m x = -1 ∨ (polB t f m = true ∧ 0 ≤ x ∧ ∃ j : Nat, byF t f m x = j ∧ 1 ≤ j ∧ (j : Int) ≤ t ∧ ats f m (j - 1) ≤ x ∧ ((j : Int) = t ∨ x < ats f m j)) := by
  unfold byF
  by_cases h : polB t f m = true ∧ 0 ≤ x
  · rw [if_pos h]
    obtain ⟨p1, p2, p3, p4, p5, p6⟩ := polB_iff.1 h.1
    obtain ⟨j, hj, j1, j2, j3, j4⟩ := byGo_spec f m x (t.toNat - 1) 1 (Nat.le_refl _) (by simp [ats]; omega)
    refine .inr ⟨h.1, h.2, j, hj, j1, by omega, j3, ?_⟩
    rcases j4 with j4 | j4
    · exact .inl (by omega)
    · exact .inr j4
  · rw [if_neg h]; exact .inl rfl

theorem by_facts (t f m x : Int) (h : ¬ byF t f m x < 0) :
    1 ≤ byF t f m x ∧ byF t f m x ≤ t ∧ t ≤ 8 ∧ atF t f m (byF t f m x) ≤ x ∧ ((atF t f m (byF t f m x + 1) = -1 ∧ byF t f m x = t) ∨ (x < atF t f m (byF t f m x + 1) ∧ 0 ≤ atF t f m (byF t f m x + 1))) ∧
      (byF t f m (x + 1) = byF t f m x ∨ byF t f m (x + 1) = byF t f m x + 1) := by
  rcases byF_neg t f m x with h0 | ⟨hv, h1, j, h3, h4, h5, h6, h7⟩
  · omega
  · obtain ⟨p1, p2, p3, p4, p5, p6⟩ := polB_iff.1 hv
    refine ⟨by omega, by omega, p2, ?_, ?_, ?_⟩
    · rw [h3, atF, if_pos ⟨hv, by omega, by omega⟩, show (j : Int).toNat - 1 = j - 1 by omega]
      exact h6
    · rw [h3]
      rcases h7 with h7 | h7
      · left
        exact ⟨by rw [atF, if_neg (by omega)], h7⟩
      · by_cases hj : (j : Int) = t
        · left
          exact ⟨by rw [atF, if_neg (by omega)], hj⟩
        · right
          have e1 : atF t f m ((j : Int) + 1) = ats f m j := by rw [atF, if_pos ⟨hv, by omega, by omega⟩]; congr 1
          have := ats_bd p3 p5 p6 j
          rw [e1]
          omega
    · rcases byF_neg t f m (x + 1) with h0 | ⟨_, _, i, i3, i4, i5, i6, i7⟩
      · rw [byF, if_pos ⟨hv, by omega⟩] at h0
        obtain ⟨i, hi, _⟩ := byGo_spec f m (x + 1) (t.toNat - 1) 1 (Nat.le_refl _) (by simp [ats]; omega)
        omega
      · rw [h3, i3]
        have hlo : j ≤ i := by
          rcases i7 with i7 | i7
          · omega
          · by_cases hc : j ≤ i
            · exact hc
            · have := ats_mono p3 p5 p6 (show i ≤ j - 1 by omega)
              omega
        have hhi : i ≤ j + 1 := by
          rcases h7 with h7 | h7
          · omega
          · by_cases hc : i ≤ j + 1
            · exact hc
            · have := ats_lt p3 p5 p6 j
              have := ats_mono p3 p5 p6 (show j + 1 ≤ i - 1 by omega)
              omega
        omega

end Go.Proofs.Ytmobpfphehmleaa
