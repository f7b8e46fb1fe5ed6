/- A name is valid: the walks over the program's and the reference's NameValid. -/
import Derived.Test.YtdchfiiaollheaaBase
namespace Go.Proofs.Ytdchfiiaollheaa
open Go.RowKit

/-- A name is valid: one to five small letters. -/
def nameB (s : ByteArray) : Bool := decide (1 ≤ s.size ∧ s.size ≤ 5 ∧ ∀ j, (h : j < s.size) → 97 ≤ (s[j].toNat : Int) ∧ (s[j].toNat : Int) ≤ 122)

theorem nameB_iff {s : ByteArray} : nameB s = true ↔ (1 ≤ s.size ∧ s.size ≤ 5 ∧ ∀ j, (h : j < s.size) → 97 ≤ (s[j].toNat : Int) ∧ (s[j].toNat : Int) ≤ 122) := by
  unfold nameB; exact decide_eq_true_iff

theorem nameB_no {s : ByteArray} {j : Nat} (h : j < s.size) (hb : (s[j].toNat : Int) < 97 ∨ 122 < (s[j].toNat : Int)) : nameB s = false := by
  cases hn : nameB s
  · rfl
  · have := (nameB_iff.1 hn).2.2 j h; omega

theorem nameB_size {s : ByteArray} (h : s.size < 1 ∨ 5 < s.size) : nameB s = false := by
  cases hn : nameB s
  · rfl
  · have := nameB_iff.1 hn; omega

theorem name_next {s : ByteArray} {k : Nat} (hlt : k < s.size) (H : ∀ j, (h : j < s.size) → j < k → 97 ≤ (s[j].toNat : Int) ∧ (s[j].toNat : Int) ≤ 122) (h1 : 97 ≤ (s[k].toNat : Int)) (h2 : (s[k].toNat : Int) ≤ 122) :
    ∀ j, (h : j < s.size) → j < k + 1 → 97 ≤ (s[j].toNat : Int) ∧ (s[j].toNat : Int) ≤ 122 := by
  intro j h hj
  rcases Nat.lt_or_ge j k with q | q
  · exact H j h q
  · obtain rfl : j = k := by omega
    exact ⟨h1, h2⟩

theorem l6In_c (n lo hi : Int) (w : World) : Calls Try.prog 58 #[.int .i64 n, .int .i64 lo, .int .i64 hi] w fun e w' => e = .returned (.bool (decide (lo ≤ n) && decide (n ≤ hi))) ∧ w = w' := by
  by_cases h1 : lo ≤ n
  all_goals by_cases h2 : n ≤ hi
  all_goals
    go_enter Try.func58, Try.ntmps58
    go_wp2
    go_ret
    exact ⟨by simp [h1, h2], rfl⟩

set_option maxHeartbeats 400000 in
theorem implNameValid_c (s : ByteArray) (w : World) (hs : s.size ≤ 9223372036854775807) : Calls Try.prog 95 #[.string s] w fun e w' => e = .returned (.bool (nameB s)) ∧ w = w' := by
  by_cases h0 : s.size < 1 ∨ 5 < s.size
  · have HF := Lib.hid (nameB_size h0)
    by_cases h1 : s.size < 1
    all_goals
      go_enter Try.func95, Try.ntmps95
      go_wp2_with fail
      go_ret
      exact ⟨ret_bool HF.out.symm, rfl⟩
  · have h1 : (1 : Int) ≤ (s.size : Int) := by omega
    have h2 : (s.size : Int) ≤ 5 := by omega
    clear h0
    go_enter Try.func95, Try.ntmps95
    go_wp2_with fail
    go_loop [14] (fun i => ∃ k : Nat, k ≤ s.size ∧ i = .int .i64 k ∧ Hid (∀ j, (h : j < s.size) → j < k → 97 ≤ (s[j].toNat : Int) ∧ (s[j].toNat : Int) ≤ 122)) (fun i => s.size - (intOf i).toNat)
    case atStart => exact ⟨0, Nat.zero_le _, rfl, Lib.hid (fun j _ h => by omega)⟩
    case round =>
      obtain ⟨k, hk, rfl, H⟩ := hrel
      by_cases hlt : k < s.size
      · go_wp2_with fail
        all_goals first
          | (go_ret; exact ⟨ret_bool (nameB_no hlt (by omega)).symm, rfl⟩)
          | (go_round
             case rel => exact ⟨k + 1, by omega, by go_num, Lib.hid (name_next hlt H.out (by omega) (by omega))⟩
             case measure => simp [intOf]; omega)
      · go_wp2_with fail
        go_ret
        exact ⟨ret_bool (nameB_iff.2 ⟨by omega, by omega, fun j h => H.out j h (by omega)⟩).symm, rfl⟩

set_option maxHeartbeats 400000 in
theorem specNameValid_c (s : ByteArray) (w : World) (hs : s.size ≤ 9223372036854775807) : Calls Try.prog 85 #[.string s] w fun e w' => e = .returned (.bool (nameB s)) ∧ w = w' := by
  go_enter Try.func85, Try.ntmps85
  go_wp2_with fail
  go_loop [3] (fun i => ∃ k : Nat, k ≤ s.size ∧ i = .int .i64 k ∧ Hid (∀ j, (h : j < s.size) → j < k → 97 ≤ (s[j].toNat : Int) ∧ (s[j].toNat : Int) ≤ 122)) (fun i => s.size - (intOf i).toNat)
  case atStart => exact ⟨0, Nat.zero_le _, rfl, Lib.hid (fun j _ h => by omega)⟩
  case round =>
    obtain ⟨k, hk, rfl, H⟩ := hrel
    by_cases hlt : k < s.size
    · go_wp2_with fail
      all_goals first
        | (go_ret; exact ⟨ret_bool (nameB_no hlt (by omega)).symm, rfl⟩)
        | (go_round
           case rel => exact ⟨k + 1, by omega, by go_num, Lib.hid (name_next hlt H.out (by omega) (by omega))⟩
           case measure => simp [intOf]; omega)
    · go_wp2_with (go_at_call 58; refine (l6In_c _ _ _ _).mono ?_; rintro e w2 ⟨rfl, rfl⟩)
      go_ret
      by_cases h0 : s.size < 1 ∨ 5 < s.size
      · exact ⟨ret_bool (by rw [nameB_size h0]; simp; omega), rfl⟩
      · exact ⟨ret_bool (by rw [nameB_iff.2 ⟨by omega, by omega, fun j h => H.out j h (by omega)⟩]; simp; omega), rfl⟩
end Go.Proofs.Ytdchfiiaollheaa
