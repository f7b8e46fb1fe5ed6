/- Values of variables are valid: the walks over the program's and the reference's VarsValid. -/
import Derived.Test.YtkfpplnadnkbgaaInts
import Derived.Test.YtkfpplnadnkbgaaNames
namespace Go.Proofs.Ytkfpplnadnkbgaa
open Go.RowKit

/-- Values are valid. -/
def varsB (l : List Int) : Bool := decide (l.length = 4 ∧ ∀ z ∈ l, 0 ≤ z ∧ z ≤ 99)
theorem varsB_iff {l : List Int} : varsB l = true ↔ (l.length = 4 ∧ ∀ z ∈ l, 0 ≤ z ∧ z ≤ 99) := by
  unfold varsB; exact decide_eq_true_iff
theorem varsB_no {l : List Int} {k : Nat} {z : Int} (h : l[k]? = some z) (hz : z < 0 ∨ 99 < z) : varsB l = false := by
  cases hn : varsB l
  · rfl
  · have := (varsB_iff.1 hn).2 z (List.mem_of_getElem? h); omega
theorem varsB_end {l : List Int} {n : Nat} (hl : l.length = n) (H : ∀ j, j < n → ∀ z, l[j]? = some z → 0 ≤ z ∧ z ≤ 99) : varsB l = ((n : Int) == 4) := by
  rw [Bool.eq_iff_iff, varsB_iff]
  constructor
  · intro h; simp; omega
  · intro h
    refine ⟨by simp at h; omega, fun z hz => ?_⟩
    obtain ⟨j, hj, rfl⟩ := List.getElem_of_mem hz
    exact H j (by omega) _ (List.getElem?_eq_getElem hj)
theorem vars_next {l : List Int} {k : Nat} {x : Int} (hx : l[k]? = some x) (H : ∀ j, j < k → ∀ z, l[j]? = some z → 0 ≤ z ∧ z ≤ 99) (h1 : 0 ≤ x) (h2 : x ≤ 99) : ∀ j, j < k + 1 → ∀ z, l[j]? = some z → 0 ≤ z ∧ z ≤ 99 := by
  intro j hj z hz
  rcases Nat.lt_or_ge j k with q | q
  · exact H j q z hz
  · obtain rfl : j = k := by omega
    rw [hx] at hz; cases hz; exact ⟨h1, h2⟩

theorem isVar_c (n : Int) (w : World) : Calls Try.prog 21 #[.int .i64 n] w fun e w' => e = .returned (.bool (decide (0 ≤ n) && decide (n ≤ 99))) ∧ w = w' := by
  by_cases h1 : 0 ≤ n
  all_goals by_cases h2 : n ≤ 99
  all_goals
    go_enter Try.func21, Try.ntmps21
    go_wp2
    go_ret
    exact ⟨by simp [h1, h2], rfl⟩

set_option maxHeartbeats 400000 in
theorem implVarsValid_c (A : Option Addr) (n c : Nat) (l : List Int) (w : World) (h : SlI w A n c l) : Calls Try.prog 10 #[.slice A n c] w fun e w' =>
    e = .returned (.bool (varsB l)) ∧ w = w' := by
  have HL := Lib.hid h.len
  have hcap := h.cap
  have hmax := h.max
  go_enter Try.func10, Try.ntmps10
  go_wp2_with fail
  go_loop [7] (fun i => ∃ k : Nat, k ≤ n ∧ i = .int .i64 k ∧ Hid (∀ j, j < k → ∀ z, l[j]? = some z → 0 ≤ z ∧ z ≤ 99)) (fun i => n - (intOf i).toNat)
  case atStart => exact ⟨0, Nat.zero_le _, rfl, Lib.hid (fun j h => by omega)⟩
  case round =>
    obtain ⟨k, hk, rfl, H⟩ := hrel
    by_cases hlt : k < n
    · obtain ⟨b, off, x, rfl, hx, hcx⟩ := SlI.get h hlt
      have HX := Lib.hid hx
      clear hx
      by_cases hv : 0 ≤ x ∧ x ≤ 99
      · obtain ⟨v1, v2⟩ := hv
        go_wp2_with (go_at_call 21; refine (isVar_c _ _).mono ?_; rintro e w2 ⟨rfl, rfl⟩)
        go_round
        case rel => exact ⟨k + 1, by omega, by go_num, Lib.hid (vars_next HX.out H.out v1 v2)⟩
        case measure => simp [intOf]; omega
      · have hd : (decide (0 ≤ x) && decide (x ≤ 99)) = false := by simp; omega
        go_wp2_with (go_at_call 21; refine (isVar_c _ _).mono ?_; rintro e w2 ⟨rfl, rfl⟩)
        go_ret
        exact ⟨ret_bool (varsB_no HX.out (by omega)).symm, rfl⟩
    · go_wp2_with fail
      go_ret
      exact ⟨ret_bool (varsB_end HL.out (fun j hj => H.out j (by omega))).symm, rfl⟩

set_option maxHeartbeats 400000 in
theorem specVarsValid_c (A : Option Addr) (n c : Nat) (l : List Int) (w : World) (h : SlI w A n c l) : Calls Try.prog 8 #[.slice A n c] w fun e w' =>
    e = .returned (.bool (varsB l)) ∧ w = w' := by
  have HL := Lib.hid h.len
  have hcap := h.cap
  have hmax := h.max
  go_enter Try.func8, Try.ntmps8
  go_wp2_with fail
  go_loop [3] (fun i => ∃ k : Nat, k ≤ n ∧ i = .int .i64 k ∧ Hid (∀ j, j < k → ∀ z, l[j]? = some z → 0 ≤ z ∧ z ≤ 99)) (fun i => n - (intOf i).toNat)
  case atStart => exact ⟨0, Nat.zero_le _, rfl, Lib.hid (fun j h => by omega)⟩
  case round =>
    obtain ⟨k, hk, rfl, H⟩ := hrel
    by_cases hlt : k < n
    · obtain ⟨b, off, x, rfl, hx, hcx⟩ := SlI.get h hlt
      have HX := Lib.hid hx
      clear hx
      by_cases hv : 0 ≤ x ∧ x ≤ 99
      · obtain ⟨v1, v2⟩ := hv
        go_wp2_with (go_at_call 20; refine (l6In_c _ _ _ _).mono ?_; rintro e w2 ⟨rfl, rfl⟩)
        go_round
        case rel => exact ⟨k + 1, by omega, by go_num, Lib.hid (vars_next HX.out H.out v1 v2)⟩
        case measure => simp [intOf]; omega
      · have hd : (decide (0 ≤ x) && decide (x ≤ 99)) = false := by simp; omega
        go_wp2_with (go_at_call 20; refine (l6In_c _ _ _ _).mono ?_; rintro e w2 ⟨rfl, rfl⟩)
        go_ret
        exact ⟨ret_bool (varsB_no HX.out (by omega)).symm, rfl⟩
    · go_wp2_with fail
      go_ret
      exact ⟨ret_bool (varsB_end HL.out (fun j hj => H.out j (by omega))).symm, rfl⟩

end Go.Proofs.Ytkfpplnadnkbgaa
