/- The plain laws of waits, times and tries of a policy. No program is in sight here. -/
namespace Go.Proofs.Ytmobpfphehmleaa

/-- A policy is valid. -/
def polB (t f m : Int) : Bool := decide (1 ≤ t ∧ t ≤ 8 ∧ 1 ≤ f ∧ f ≤ 500 ∧ f ≤ m ∧ m ≤ 500)

theorem polB_iff {t f m : Int} : polB t f m = true ↔ (1 ≤ t ∧ t ≤ 8 ∧ 1 ≤ f ∧ f ≤ 500 ∧ f ≤ m ∧ m ≤ 500) := by
  unfold polB; exact decide_eq_true_iff

/-- The wait behind try k + 1. -/
def wt (f m : Int) : Nat → Int
  | 0 => f
  | n + 1 => min (2 * wt f m n) m

theorem wt_bd {f m : Int} (hf : 1 ≤ f) (hm : f ≤ m) (hm2 : m ≤ 500) : ∀ n, f ≤ wt f m n ∧ wt f m n ≤ m
  | 0 => ⟨by simp [wt], by simp [wt]; omega⟩
  | n + 1 => by
    have h := wt_bd hf hm hm2 n
    simp only [wt]
    omega

theorem wt_step {f m : Int} (hf : 1 ≤ f) (hm : f ≤ m) (hm2 : m ≤ 500) (n : Nat) : wt f m n ≤ wt f m (n + 1) ∧ wt f m (n + 1) ≤ 2 * wt f m n := by
  have h := wt_bd hf hm hm2 n
  simp only [wt]
  omega

theorem wt_next (f m : Int) (k : Nat) (hk : 1 ≤ k) : wt f m (k + 1 - 1) = if m < 2 * wt f m (k - 1) then m else 2 * wt f m (k - 1) := by
  obtain ⟨j, rfl⟩ : ∃ j, k = j + 1 := ⟨k - 1, by omega⟩
  simp only [Nat.add_sub_cancel, wt]
  omega

theorem wt_succ (f m : Int) (k : Nat) : wt f m (k + 1) = if m < 2 * wt f m k then m else 2 * wt f m k := by
  simp only [wt]
  omega

/-- When try k + 1 begins. -/
def ats (f m : Int) : Nat → Int
  | 0 => 0
  | n + 1 => ats f m n + wt f m n

theorem ats_bd {f m : Int} (hf : 1 ≤ f) (hm : f ≤ m) (hm2 : m ≤ 500) : ∀ n : Nat, (n : Int) ≤ ats f m n ∧ ats f m n ≤ 500 * n
  | 0 => by simp [ats]
  | n + 1 => by
    have h := ats_bd hf hm hm2 n
    have h2 := wt_bd hf hm hm2 n
    simp only [ats]
    omega

theorem ats_lt {f m : Int} (hf : 1 ≤ f) (hm : f ≤ m) (hm2 : m ≤ 500) (n : Nat) : ats f m n < ats f m (n + 1) := by
  have h2 := wt_bd hf hm hm2 n
  simp only [ats]
  omega

theorem ats_mono {f m : Int} (hf : 1 ≤ f) (hm : f ≤ m) (hm2 : m ≤ 500) {a b : Nat} (h : a ≤ b) : ats f m a ≤ ats f m b := by
  obtain ⟨d, rfl⟩ := Nat.exists_eq_add_of_le h
  clear h
  induction d with
  | zero => exact Int.le_refl _
  | succ d ih => have := ats_lt hf hm hm2 (a + d); rw [← Nat.add_assoc]; omega

theorem ats_next (f m : Int) (k : Nat) (hk : 1 ≤ k) : ats f m (k + 1 - 1) = ats f m (k - 1) + wt f m (k - 1) := by
  obtain ⟨j, rfl⟩ : ∃ j, k = j + 1 := ⟨k - 1, by omega⟩
  simp only [Nat.add_sub_cancel, ats]

/-- The first n waits. -/
def wts (f m : Int) (n : Nat) : List Int := (List.range n).map (wt f m)

theorem wts_len (f m : Int) (n : Nat) : (wts f m n).length = n := by simp [wts]
theorem wts_snoc (f m : Int) (n : Nat) : wts f m (n + 1) = wts f m n ++ [wt f m n] := by simp [wts, List.range_succ]
theorem wts_get (f m : Int) (n k : Nat) (h : k < n) : (wts f m n)[k]? = some (wt f m k) := by simp [wts, h]

/-- What RetryWait gives. -/
def waitF (t f m n : Int) : Int := if polB t f m = true ∧ 1 ≤ n ∧ n < t then wt f m (n.toNat - 1) else -1

/-- What RetryAt gives. -/
def atF (t f m n : Int) : Int := if polB t f m = true ∧ 1 ≤ n ∧ n ≤ t then ats f m (n.toNat - 1) else -1

/-- The tries that begin up to a time, counted from try k on; r more are to come. -/
def byGo (f m now : Int) : Nat → Nat → Int
  | 0, k => k
  | r + 1, k => if ats f m k ≤ now then byGo f m now r (k + 1) else k

theorem byGo_yes (f m now t : Int) (k : Nat) (_h1 : 1 ≤ k) (h2 : (k : Int) < t) (h : ats f m k ≤ now) : byGo f m now (t.toNat - (k + 1)) (k + 1) = byGo f m now (t.toNat - k) k := by
  obtain ⟨r, hr⟩ : ∃ r, t.toNat - k = r + 1 := ⟨t.toNat - k - 1, by omega⟩
  rw [hr, show t.toNat - (k + 1) = r by omega]
  simp [byGo, h]

theorem byGo_no (f m now t : Int) (k : Nat) (_h1 : 1 ≤ k) (h2 : (k : Int) < t) (h : ¬ ats f m k ≤ now) : byGo f m now (t.toNat - k) k = k := by
  obtain ⟨r, hr⟩ : ∃ r, t.toNat - k = r + 1 := ⟨t.toNat - k - 1, by omega⟩
  rw [hr]
  simp [byGo, h]

theorem byGo_end (f m now t : Int) (k : Nat) (h2 : ¬ (k : Int) < t) : byGo f m now (t.toNat - k) k = k := by
  rw [show t.toNat - k = 0 by omega]
  rfl

/-- What RetryBy gives. -/
def byF (t f m now : Int) : Int := if polB t f m = true ∧ 0 ≤ now then byGo f m now (t.toNat - 1) 1 else -1

theorem byGo_spec (f m now : Int) : ∀ (r k : Nat), 1 ≤ k → ats f m (k - 1) ≤ now →
    ∃ j : Nat, byGo f m now r k = j ∧ k ≤ j ∧ j ≤ k + r ∧ ats f m (j - 1) ≤ now ∧ (j = k + r ∨ now < ats f m j)
  | 0, k, hk, h => ⟨k, rfl, Nat.le_refl _, Nat.le_refl _, h, .inl rfl⟩
  | r + 1, k, hk, h => by
    unfold byGo
    by_cases hc : ats f m k ≤ now
    · rw [if_pos hc]
      obtain ⟨j, h1, h2, h3, h4, h5⟩ := byGo_spec f m now r (k + 1) (by omega) (by simpa using hc)
      refine ⟨j, h1, by omega, by omega, h4, ?_⟩
      rcases h5 with h5 | h5
      · exact .inl (by omega)
      · exact .inr h5
    · rw [if_neg hc]
      exact ⟨k, rfl, by omega, by omega, h, .inr (by omega)⟩

end Go.Proofs.Ytmobpfphehmleaa
